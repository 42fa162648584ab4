/- coins: the plain model; Less, Ripe, place, Find, take, put, by contract. No condition. -/
import Derived.Test.YtpnbfohdfffolaaSlCn
import Derived.Test.YtpnbfohdfffolaaK1
set_option linter.all false
set_option maxHeartbeats 40000000
set_option synthInstance.maxHeartbeats 2000000
set_option synthInstance.maxSize 100000
namespace Go.Proofs.Ytpnbfohdfffolaa
open Go Go.RowKit
def plt (a b : Pt) : Bool := if a.tx = b.tx then decide ((a.idx.toNat : Int) < (b.idx.toNat : Int)) else klt a.tx b.tx
def ripe (c : Cn) (h : UInt32) : Bool := !c.base || (decide (c.h.toNat ≤ h.toNat) && decide (c.h.toNat + 3 ≤ h.toNat))
def placeC (xs : List Cn) (p : Pt) : Option Nat := xs.findIdx? fun c => decide (c.at_ = p)
def takeM (xs : List Cn) (p : Pt) (q : Cn → Bool) : Option (Cn × List Cn) :=
  match placeC xs p with
  | none => none
  | some i => if q xs[i]! then some (xs[i]!, xs.take i ++ xs.drop (i + 1)) else none
def putI (xs : List Cn) (c : Cn) : Nat := (xs.findIdx? fun x => plt c.at_ x.at_).getD xs.length
def putC (xs : List Cn) (c : Cn) : Option (List Cn) :=
  match placeC xs c.at_ with
  | some _ => none
  | none => some (xs.take (putI xs c) ++ c :: xs.drop (putI xs c))
theorem findIdx_lt {α : Type} {p : α → Bool} {xs : List α} {i : Nat} (h : xs.findIdx? p = some i) : i < xs.length := (List.findIdx?_eq_some_iff_getElem.1 h).1
theorem putI_le (xs : List Cn) (c : Cn) : putI xs c ≤ xs.length := by
  unfold putI
  cases h : xs.findIdx? fun x => plt c.at_ x.at_ with
  | none => exact Nat.le_refl _
  | some i => exact Nat.le_of_lt (findIdx_lt h)
section
variable {σ : St} {A B : Option Addr} {n c m d b : Nat} {xs ys : List Cn} {p q : Pt} {k : Cn} {v1 v2 : Value}
instance rule_coins_Less [h1 : ValOf ptE v1 p] [h2 : ValOf ptE v2 q] {bb : Bool} [qq : BV (plt p q) bb] : CallRule Try.prog 12 [v1, v2] σ (fun K _ => ∀ σ', Nx σ σ' .no → K (.bool bb) σ') := ⟨fun K E hK => by
  have hq := qq.eq; subst hq
  have e1 : v1 = .agg (cats [kc p.tx, #[.int .u32 (p.idx.toNat : Int)]]) := h1.eq
  have e2 : v2 = .agg (cats [kc q.tx, #[.int .u32 (q.idx.toNat : Int)]]) := h2.eq
  subst e1; subst e2
  by_cases h : p.tx = q.tx
  · haveI : BV (decide (p.tx = q.tx)) true := ⟨by simpa using h⟩
    have e : plt p q = decide ((p.idx.toNat : Int) < (q.idx.toNat : Int)) := by unfold plt; rw [if_pos h]
    rw [e] at hK
    refine calls_enter Try.func12 rfl _ Try.ntmps12 rfl ?_
    (repeat (first | refine go ?_ | refine goR ?_ | refine goS (fun yc hyc => ?_) | refine goL (fun _ _ => inferInstance) ?_ | with_reducible intro _ | refine goO (by first | omega | (simp only [List.length_cons, List.length_nil]; omega)) ?_ | fail))
    exact backN (σ0 := σ) Try.results12 (fun σ' _ _ => hK σ' inferInstance)
  · haveI : BV (decide (p.tx = q.tx)) false := ⟨by simpa using h⟩
    have e : plt p q = klt p.tx q.tx := by unfold plt; rw [if_neg h]
    rw [e] at hK
    refine calls_enter Try.func12 rfl _ Try.ntmps12 rfl ?_
    (repeat (first | refine go ?_ | refine goR ?_ | refine goS (fun yc hyc => ?_) | refine goL (fun _ _ => inferInstance) ?_ | with_reducible intro _ | refine goO (by first | omega | (simp only [List.length_cons, List.length_nil]; omega)) ?_ | fail))
    exact backN (σ0 := σ) Try.results12 (fun σ' _ _ => hK σ' inferInstance)⟩
instance rule_Ripe [h1 : ValOf cnE v1 k] {h : Int} {hh : UInt32} [u : U32 h hh] {bb : Bool} [qq : BV (ripe k hh) bb] : CallRule Try.prog 11 [v1, .int .u32 h] σ (fun K _ => ∀ σ', Nx σ σ' .no → K (.bool bb) σ') := ⟨fun K E hK => by
  have hq := qq.eq; subst hq
  have e1 : v1 = .agg (cats [kc k.at_.tx, #[.int .u32 (k.at_.idx.toNat : Int)], #[.int .i64 k.out.val.toInt], kc k.out.lock, #[.int .u32 (k.h.toNat : Int)], #[.bool k.base]]) := h1.eq
  have e2 := u.eq
  subst e1; subst e2
  cases hb : k.base with
  | false =>
    haveI : BV k.base false := ⟨hb⟩
    have e : ripe k hh = true := by unfold ripe; rw [hb]; rfl
    rw [e] at hK
    refine calls_enter Try.func11 rfl _ Try.ntmps11 rfl ?_
    (repeat (first | refine go ?_ | refine goR ?_ | refine goS (fun yc hyc => ?_) | refine goL (fun _ _ => inferInstance) ?_ | with_reducible intro _ | refine goO (by first | omega | (simp only [List.length_cons, List.length_nil]; omega)) ?_ | fail))
    exact backN (σ0 := σ) Try.results11 (fun σ' _ _ => hK σ' inferInstance)
  | true =>
    haveI : BV k.base true := ⟨hb⟩
    have l1 := hh.toNat_lt
    have l2 := k.h.toNat_lt
    by_cases hl : k.h.toNat ≤ hh.toNat
    · haveI : BV (decide ((k.h.toNat : Int) ≤ (hh.toNat : Int))) true := ⟨by simp; omega⟩
      haveI : Fits .u32 ((hh.toNat : Int) - (k.h.toNat : Int)) := Fits.u32 (by omega) (by omega)
      have e : ripe k hh = decide (3 ≤ (hh.toNat : Int) - (k.h.toNat : Int)) := by
        unfold ripe; rw [hb]
        simp only [Bool.not_true, Bool.false_or, hl, decide_true, Bool.true_and, decide_eq_decide]; omega
      rw [e] at hK
      refine calls_enter Try.func11 rfl _ Try.ntmps11 rfl ?_
      (repeat (first | refine go ?_ | refine goR ?_ | refine goS (fun yc hyc => ?_) | refine goL (fun _ _ => inferInstance) ?_ | with_reducible intro _ | refine goO (by first | omega | (simp only [List.length_cons, List.length_nil]; omega)) ?_ | fail))
      exact backN (σ0 := σ) Try.results11 (fun σ' _ _ => hK σ' inferInstance)
    · haveI : BV (decide ((k.h.toNat : Int) ≤ (hh.toNat : Int))) false := ⟨by simp; omega⟩
      have e : ripe k hh = false := by unfold ripe; rw [hb]; simp; omega
      rw [e] at hK
      refine calls_enter Try.func11 rfl _ Try.ntmps11 rfl ?_
      (repeat (first | refine go ?_ | refine goR ?_ | refine goS (fun yc hyc => ?_) | refine goL (fun _ _ => inferInstance) ?_ | with_reducible intro _ | refine goO (by first | omega | (simp only [List.length_cons, List.length_nil]; omega)) ?_ | fail))
      exact backN (σ0 := σ) Try.results11 (fun σ' _ _ => hK σ' inferInstance)⟩
instance rule_at {x : Cn} {t : TypeId} [o : Own σ b t (cats [kc p.tx, #[.int .u32 (p.idx.toNat : Int)]])] {bb : Bool} [qq : BV (decide (x.at_ = p)) bb] : CallRule Try.prog 47 [.agg (cats [kc x.at_.tx, #[.int .u32 (x.at_.idx.toNat : Int)], #[.int .i64 x.out.val.toInt], kc x.out.lock, #[.int .u32 (x.h.toNat : Int)], #[.bool x.base]]), .pointer (some ⟨b, 0, none⟩)] σ (fun K _ => ∀ σ', Nx σ σ' .no → K (.bool bb) σ') := ⟨fun K E hK => by
  have hq := qq.eq; subst hq
  refine calls_enter Try.func47 rfl _ Try.ntmps47 rfl ?_
  (repeat (first | refine go ?_ | refine goR ?_ | refine goS (fun yc hyc => ?_) | refine goL (fun _ _ => inferInstance) ?_ | with_reducible intro _ | refine goO (by first | omega | (simp only [List.length_cons, List.length_nil]; omega)) ?_ | fail))
  exact backN (σ0 := σ) Try.results47 (fun σ' _ _ => hK σ' inferInstance)⟩
instance clos_at : Clos1 Try.prog 47 34 (cats [kc p.tx, #[.int .u32 (p.idx.toNat : Int)]]) cnE (fun x => decide (x.at_ = p)) := ⟨fun σ b x o _ => inferInstance⟩
instance rule_place {pv : Value} [o : Own σ b 78 (cats [#[.slice A n c]])] [h : RdN σ A n c cnE xs] [h1 : ValOf ptE pv p] {o : Option Nat} {v : Int} [q1 : Is (placeC xs p) o] [q2 : OptI o v] :
    CallRule Try.prog 32 [.pointer (some ⟨b, 0, none⟩), pv] σ (fun K _ => ∀ σ', Nx σ σ' .no → K (.int .i64 v) σ') := ⟨fun K E hK => by
  have e1 : pv = .agg (cats [kc p.tx, #[.int .u32 (p.idx.toNat : Int)]]) := h1.eq
  subst e1
  haveI : Is (xs.findIdx? fun x => decide (x.at_ = p)) o := ⟨q1.eq⟩
  refine calls_enter Try.func32 rfl _ Try.ntmps32 rfl ?_
  (repeat (first | refine go ?_ | refine goR ?_ | refine goS (fun yc hyc => ?_) | refine goL (fun _ _ => inferInstance) ?_ | with_reducible intro _ | refine goO (by first | omega | (simp only [List.length_cons, List.length_nil]; omega)) ?_ | fail))
  exact backN (σ0 := σ) Try.results32 (fun σ' _ _ => hK σ' inferInstance)⟩
instance rule_above_cn {x : Cn} {t : TypeId} [o : Own σ b t (cats [kc k.at_.tx, #[.int .u32 (k.at_.idx.toNat : Int)], #[.int .i64 k.out.val.toInt], kc k.out.lock, #[.int .u32 (k.h.toNat : Int)], #[.bool k.base]])] {bb : Bool} [qq : BV (plt k.at_ x.at_) bb] : CallRule Try.prog 44 [.agg (cats [kc x.at_.tx, #[.int .u32 (x.at_.idx.toNat : Int)], #[.int .i64 x.out.val.toInt], kc x.out.lock, #[.int .u32 (x.h.toNat : Int)], #[.bool x.base]]), .pointer (some ⟨b, 0, none⟩)] σ (fun K _ => ∀ σ', Nx σ σ' .no → K (.bool bb) σ') := ⟨fun K E hK => by
  have hq := qq.eq; subst hq
  refine calls_enter Try.func44 rfl _ Try.ntmps44 rfl ?_
  (repeat (first | refine go ?_ | refine goR ?_ | refine goS (fun yc hyc => ?_) | refine goL (fun _ _ => inferInstance) ?_ | with_reducible intro _ | refine goO (by first | omega | (simp only [List.length_cons, List.length_nil]; omega)) ?_ | fail))
  exact backN (σ0 := σ) Try.results44 (fun σ' _ _ => hK σ' inferInstance)⟩
instance clos_above_cn : Clos1 Try.prog 44 40 (cats [kc k.at_.tx, #[.int .u32 (k.at_.idx.toNat : Int)], #[.int .i64 k.out.val.toInt], kc k.out.lock, #[.int .u32 (k.h.toNat : Int)], #[.bool k.base]]) cnE (fun x => plt k.at_ x.at_) := ⟨fun σ b x o _ => inferInstance⟩
end
end Go.Proofs.Ytpnbfohdfffolaa
