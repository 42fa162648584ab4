/- Plain values: keys of 32 bytes, points, outs, coins; their cells; the order of keys. No condition. -/
import Derived.WalkKit
import GoSem.Extern.BytealgCompare
set_option linter.all false
namespace Go.Proofs.Ythdhnkgnbdociaa
open Go Go.RowKit

abbrev Key := Vector UInt8 32
def u8v (b : UInt8) : Value := .int .u8 (b.toNat : Int)
def kc (k : Key) : Array Value := k.toArray.map u8v
theorem kc_size (k : Key) : (kc k).size = 32 := by simp [kc]
theorem kc_get (k : Key) (i : Nat) (h : i < 32) : (kc k)[i]? = some (u8v k[i]) := by simp [kc, h]
theorem u8v_inj {a b : UInt8} (h : u8v a = u8v b) : a = b := by
  unfold u8v at h; injection h with _ h; exact UInt8.toNat_inj.1 (by omega)
theorem kc_inj {a b : Key} (h : kc a = kc b) : a = b := by
  apply Vector.ext; intro i hi
  have h1 := kc_get a i hi
  rw [h, kc_get b i hi] at h1
  injection h1 with h1
  exact (u8v_inj h1).symm

/-- the order of bytes, as bytes.Compare has it -/
def lexc : List UInt8 → List UInt8 → Int
  | [], [] => 0
  | [], _ :: _ => -1
  | _ :: _, [] => 1
  | a :: as, b :: bs => if a = b then lexc as bs else if a < b then -1 else 1

theorem lexc_self : ∀ a, lexc a a = 0
  | [] => rfl
  | a :: as => by simp [lexc, lexc_self as]
theorem lexc_eq_zero : ∀ {a b}, lexc a b = 0 → a = b
  | [], [], _ => rfl
  | [], _ :: _, h => by simp [lexc] at h
  | _ :: _, [], h => by simp [lexc] at h
  | a :: as, b :: bs, h => by
    unfold lexc at h
    split at h
    · rename_i e; rw [e, lexc_eq_zero h]
    · split at h <;> omega
theorem lexc_swap : ∀ a b, lexc b a = - lexc a b
  | [], [] => rfl
  | [], _ :: _ => rfl
  | _ :: _, [] => rfl
  | a :: as, b :: bs => by
    unfold lexc
    by_cases e : a = b
    · rw [if_pos e, if_pos e.symm, lexc_swap as bs]
    · rw [if_neg e, if_neg (Ne.symm e)]
      by_cases l : a < b
      · rw [if_pos l, if_neg (by rw [UInt8.lt_iff_toNat_lt] at *; omega)]; rfl
      · have : b < a := by
          rw [UInt8.lt_iff_toNat_lt] at *
          have : a.toNat ≠ b.toNat := fun h => e (UInt8.toNat_inj.1 h)
          omega
        rw [if_neg l, if_pos this]
theorem lexc_cases : ∀ a b, lexc a b = -1 ∨ lexc a b = 0 ∨ lexc a b = 1
  | [], [] => by simp [lexc]
  | [], _ :: _ => by simp [lexc]
  | _ :: _, [] => by simp [lexc]
  | a :: as, b :: bs => by
    unfold lexc
    split
    · exact lexc_cases as bs
    · split <;> simp
theorem lexc_trans : ∀ {a b c}, lexc a b < 0 → lexc b c < 0 → lexc a c < 0
  | [], [], _, h, _ => by simp [lexc] at h
  | [], _ :: _, [], _, h => by simp [lexc] at h
  | [], _ :: _, _ :: _, _, _ => by simp [lexc]
  | _ :: _, [], _, h, _ => by simp [lexc] at h
  | a :: as, b :: bs, [], _, h => by simp [lexc] at h
  | a :: as, b :: bs, c :: cs, h1, h2 => by
    unfold lexc at h1 h2 ⊢
    simp only [UInt8.lt_iff_toNat_lt] at *
    by_cases e1 : a = b
    · subst e1
      rw [if_pos rfl] at h1
      by_cases e2 : a = c
      · rw [if_pos e2] at h2 ⊢; exact lexc_trans h1 h2
      · rw [if_neg e2] at h2 ⊢; exact h2
    · rw [if_neg e1] at h1
      split at h1
      · rename_i l1
        by_cases e2 : b = c
        · subst e2; rw [if_neg e1, if_pos l1]; omega
        · rw [if_neg e2] at h2
          split at h2
          · rename_i l2
            have : a ≠ c := fun e => by rw [e] at l1; omega
            rw [if_neg this, if_pos (by omega)]; omega
          · omega
      · omega

theorem find_range_lexc : ∀ (as bs : List UInt8),
    (match (List.range (min as.length bs.length)).find? (fun i => as[i]! != bs[i]!) with
      | some i => if as[i]! < bs[i]! then (-1 : Int) else 1
      | none => if as.length < bs.length then -1 else if as.length > bs.length then 1 else 0) = lexc as bs
  | [], [] => by simp [lexc]
  | [], _ :: _ => by simp [lexc]
  | _ :: _, [] => by simp [lexc]
  | a :: as, b :: bs => by
    have ih := find_range_lexc as bs
    simp only [List.length_cons, Nat.succ_min_succ, List.range_succ_eq_map, List.find?_cons]
    unfold lexc
    by_cases e : a = b
    · subst e
      simp only [List.getElem!_cons_zero, bne_self_eq_false, if_pos, List.find?_map]
      rw [← ih]
      have hc : ((fun i => (a :: as)[i]! != (a :: bs)[i]!) ∘ Nat.succ) = fun i => as[i]! != bs[i]! := by
        funext i; simp
      rw [hc]
      cases h : (List.range (min as.length bs.length)).find? (fun i => as[i]! != bs[i]!) with
      | none => simp
      | some i => simp
    · simp only [List.getElem!_cons_zero, e, if_false]
      have : (a != b) = true := by simp [e]
      rw [this]
      simp

theorem cmp_eq (as bs : List UInt8) : Extern.BytealgCompare.cmp ⟨as.toArray⟩ ⟨bs.toArray⟩ = lexc as bs := by
  rw [← find_range_lexc]
  unfold Extern.BytealgCompare.cmp
  have h1 : (ByteArray.mk as.toArray).size = as.length := by simp [ByteArray.size]
  have h2 : (ByteArray.mk bs.toArray).size = bs.length := by simp [ByteArray.size]
  have g : ∀ (l : List UInt8) (i : Nat), (ByteArray.mk l.toArray)[i]! = l[i]! := by
    intro l i
    by_cases h : i < l.length
    · rw [getElem!_pos (ByteArray.mk l.toArray) i (by simpa [ByteArray.size] using h), getElem!_pos l i h]; rfl
    · rw [getElem!_neg (ByteArray.mk l.toArray) i (by simpa [ByteArray.size] using h), getElem!_neg l i h]
  simp only [h1, h2, g]
  rfl

def kcmp (a b : Key) : Int := lexc a.toList b.toList
def klt (a b : Key) : Bool := decide (kcmp a b < 0)
theorem kcmp_self (a : Key) : kcmp a a = 0 := lexc_self _
theorem kcmp_zero {a b : Key} (h : kcmp a b = 0) : a = b := by
  have := lexc_eq_zero h
  exact Vector.toList_inj.1 this
theorem kcmp_swap (a b : Key) : kcmp b a = - kcmp a b := lexc_swap _ _
theorem kcmp_cases (a b : Key) : kcmp a b = -1 ∨ kcmp a b = 0 ∨ kcmp a b = 1 := lexc_cases _ _
theorem klt_irrefl (a : Key) : klt a a = false := by simp [klt, kcmp_self]
theorem klt_trans {a b c : Key} (h1 : klt a b = true) (h2 : klt b c = true) : klt a c = true := by
  simp only [klt, decide_eq_true_eq] at *; exact lexc_trans h1 h2
theorem klt_asymm {a b : Key} (h : klt a b = true) : klt b a = false := by
  simp only [klt, decide_eq_true_eq, decide_eq_false_iff_not] at *; rw [kcmp_swap]; omega
theorem klt_total {a b : Key} (h : a ≠ b) : klt a b = true ∨ klt b a = true := by
  simp only [klt, decide_eq_true_eq]
  rw [kcmp_swap a b]
  have : kcmp a b ≠ 0 := fun e => h (kcmp_zero e)
  omega
end Go.Proofs.Ythdhnkgnbdociaa
