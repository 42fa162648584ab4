/- The law CoinsRipe, by contract. No condition. -/
import Derived.Test.YtpnbfohdfffolaaCc
set_option linter.all false
set_option maxHeartbeats 40000000
set_option synthInstance.maxHeartbeats 2000000
set_option synthInstance.maxSize 100000
namespace Go.Proofs.Ytpnbfohdfffolaa
open Go Go.RowKit
/-- one coin that is asked for -/
theorem apply_one {c0 : Cn} {t : Tx} {other : Key} {hu : UInt32} (h1 : t.ins.l = [c0.at_]) (h2 : t.outs.l = []) (hid : c0.at_.tx ≠ key0) : applyR [c0] t other hu = if ripe c0 hu then ([], [c0], 0) else ([], [], 160) := by
  have hcb : cbM t = false := by
    unfold cbM
    rw [h1]
    simp [hid]
  have hpl : placeC [c0] c0.at_ = some 0 := by unfold placeC; simp [List.findIdx?_cons]
  have htk : takeM [c0] c0.at_ (fun k => ripe k hu) = if ripe c0 hu then some (c0, []) else none := by
    unfold takeM; rw [hpl]; rfl
  have hsp : spentM [c0] t hu = if ripe c0 hu then some ([], [c0]) else none := by
    unfold spentM
    rw [if_neg (by simp [hcb]), h1]
    unfold takesM
    simp only [List.foldl_cons, List.foldl_nil, Option.bind_some, htk]
    split <;> rfl
  have hou : outsM t other hu = [] := by unfold outsM; rw [h2]; rfl
  unfold applyR
  rw [hsp, hou]
  cases ripe c0 hu <;> rfl
section
variable {σ : St} {id other : Key} {md : UInt16} {bh : UInt8} {bs : Bool}
def ripec (id : Key) (md : UInt16) (bs : Bool) : Cn := ⟨⟨id, UInt32.ofNat 0⟩, ⟨Int64.ofInt 7, key0⟩, UInt32.ofNat md.toNat, bs⟩
instance rule_CoinsRipe : CallRule Try.prog 3 [.agg (kc id), .agg (kc other), .int .u16 (md.toNat : Int), .int .u8 (bh.toNat : Int), .bool bs] σ (fun K _ => ∀ σ', Nx σ σ' .no → K (.bool true) σ') := ⟨fun K E hK => by
  have l1 := md.toNat_lt
  have l2 := bh.toNat_lt
  haveI : Fits .u32 (md.toNat : Int) := Fits.u32 (by omega) (by omega)
  haveI : Fits .u32 (bh.toNat : Int) := Fits.u32 (by omega) (by omega)
  haveI : Fits .u32 ((md.toNat : Int) + (bh.toNat : Int)) := Fits.u32 (by omega) (by omega)
  haveI : BV (decide ((([ripec id md true] : List Cn).length : Int) = 1)) true := ⟨by simp⟩
  haveI : BV (decide ((([ripec id md false] : List Cn).length : Int) = 1)) true := ⟨by simp⟩
  haveI : IdxLt 0 ([ripec id md true] : List Cn).length := ⟨by simp⟩
  haveI : IdxLt 0 ([ripec id md false] : List Cn).length := ⟨by simp⟩
  haveI : BV ([ripec id md true][0]!).base true := ⟨rfl⟩
  haveI : BV ([ripec id md false][0]!).base false := ⟨rfl⟩
  have hrt : ripe (ripec id md true) (UInt32.ofNat ((md.toNat : Int) + (bh.toNat : Int)).toNat) = decide (3 ≤ bh.toNat) := by
    unfold ripe ripec
    have e1 : (UInt32.ofNat md.toNat).toNat = md.toNat := by simp <;> omega
    have e2 : (UInt32.ofNat ((md.toNat : Int) + (bh.toNat : Int)).toNat).toNat = md.toNat + bh.toNat := by simp <;> omega
    simp only [e1, e2]
    rw [Bool.eq_iff_iff]; simp <;> omega
  have hrf : ripe (ripec id md false) (UInt32.ofNat ((md.toNat : Int) + (bh.toNat : Int)).toNat) = true := rfl
  by_cases hid : id = key0
  · haveI : BV (decide (id = key0)) true := ⟨decide_eq_true hid⟩
    cases bs with
    | true =>
      haveI : ∀ A B, Is (applyR [] ⟨UInt32.ofNat 0, ⟨B, 1, 1, [⟨key0, UInt32.ofNat 0⟩]⟩, ⟨A, 1, 1, [⟨Int64.ofInt ((7 : Nat) : Int), key0⟩]⟩, key0, ⟨none, 0, 0, []⟩, ⟨none, 0, 0, []⟩, Int64.ofInt ((0 : Nat) : Int)⟩ id (UInt32.ofNat md.toNat)) ([ripec id md true], [], 0) := fun A B => ⟨by kernel_rfl⟩
      refine calls_enter Try.func3 rfl _ Try.ntmps3 rfl ?_
      (repeat (first | refine go ?_ | refine goR ?_ | refine goS (fun yc hyc => ?_) | refine goL (fun _ _ => inferInstance) ?_ | with_reducible intro _ | refine goO (by first | omega | (simp only [List.length_cons, List.length_nil]; omega)) ?_ | fail))
      exact backN (σ0 := σ) Try.results3 (fun σ' _ _ => hK σ' inferInstance)
    | false =>
      haveI : ∀ A, Is (applyR [] ⟨UInt32.ofNat 0, ⟨none, 0, 0, []⟩, ⟨A, 1, 1, [⟨Int64.ofInt ((7 : Nat) : Int), key0⟩]⟩, key0, ⟨none, 0, 0, []⟩, ⟨none, 0, 0, []⟩, Int64.ofInt ((0 : Nat) : Int)⟩ id (UInt32.ofNat md.toNat)) ([ripec id md false], [], 0) := fun A => ⟨by kernel_rfl⟩
      refine calls_enter Try.func3 rfl _ Try.ntmps3 rfl ?_
      (repeat (first | refine go ?_ | refine goR ?_ | refine goS (fun yc hyc => ?_) | refine goL (fun _ _ => inferInstance) ?_ | with_reducible intro _ | refine goO (by first | omega | (simp only [List.length_cons, List.length_nil]; omega)) ?_ | fail))
      exact backN (σ0 := σ) Try.results3 (fun σ' _ _ => hK σ' inferInstance)
  · haveI : BV (decide (id = key0)) false := ⟨decide_eq_false hid⟩
    haveI : BV (decide ((([] : List Cn).length : Int) = 1)) false := ⟨by simp⟩
    cases bs with
    | true =>
      haveI : ∀ A B, Is (applyR [] ⟨UInt32.ofNat 0, ⟨B, 1, 1, [⟨key0, UInt32.ofNat 0⟩]⟩, ⟨A, 1, 1, [⟨Int64.ofInt ((7 : Nat) : Int), key0⟩]⟩, key0, ⟨none, 0, 0, []⟩, ⟨none, 0, 0, []⟩, Int64.ofInt ((0 : Nat) : Int)⟩ id (UInt32.ofNat md.toNat)) ([ripec id md true], [], 0) := fun A B => ⟨by kernel_rfl⟩
      by_cases h3 : 3 ≤ bh.toNat
      · have hr := hrt.trans (decide_eq_true h3)
        haveI : BV (decide ((3 : Int) ≤ (bh.toNat : Int))) true := ⟨decide_eq_true (by omega)⟩
        haveI : ∀ A, Is (applyR [ripec id md true] ⟨UInt32.ofNat 0, ⟨A, 1 - 0, 2 - 0, List.take (1 - 0) (List.drop 0 [⟨id, UInt32.ofNat 0⟩, ⟨id, UInt32.ofNat 0⟩])⟩, ⟨none, 0, 0, []⟩, key0, ⟨none, 0, 0, []⟩, ⟨none, 0, 0, []⟩, Int64.ofInt ((0 : Nat) : Int)⟩ other (UInt32.ofNat ((md.toNat : Int) + (bh.toNat : Int)).toNat)) ([], [ripec id md true], 0) := fun A => ⟨(apply_one rfl rfl hid).trans (by rw [hr]; rfl)⟩
        haveI : BV (ripe [ripec id md true][0]! (UInt32.ofNat ((md.toNat : Int) + (bh.toNat : Int)).toNat)) true := ⟨hr⟩
        refine calls_enter Try.func3 rfl _ Try.ntmps3 rfl ?_
        (repeat (first | refine go ?_ | refine goR ?_ | refine goS (fun yc hyc => ?_) | refine goL (fun _ _ => inferInstance) ?_ | with_reducible intro _ | refine goO (by first | omega | (simp only [List.length_cons, List.length_nil]; omega)) ?_ | fail))
        exact backN (σ0 := σ) Try.results3 (fun σ' _ _ => hK σ' inferInstance)
      · have hr := hrt.trans (decide_eq_false h3)
        haveI : BV (decide ((3 : Int) ≤ (bh.toNat : Int))) false := ⟨decide_eq_false (by omega)⟩
        haveI : ∀ A, Is (applyR [ripec id md true] ⟨UInt32.ofNat 0, ⟨A, 1 - 0, 2 - 0, List.take (1 - 0) (List.drop 0 [⟨id, UInt32.ofNat 0⟩, ⟨id, UInt32.ofNat 0⟩])⟩, ⟨none, 0, 0, []⟩, key0, ⟨none, 0, 0, []⟩, ⟨none, 0, 0, []⟩, Int64.ofInt ((0 : Nat) : Int)⟩ other (UInt32.ofNat ((md.toNat : Int) + (bh.toNat : Int)).toNat)) ([], [], 160) := fun A => ⟨(apply_one rfl rfl hid).trans (by rw [hr]; rfl)⟩
        haveI : BV (ripe [ripec id md true][0]! (UInt32.ofNat ((md.toNat : Int) + (bh.toNat : Int)).toNat)) false := ⟨hr⟩
        refine calls_enter Try.func3 rfl _ Try.ntmps3 rfl ?_
        (repeat (first | refine go ?_ | refine goR ?_ | refine goS (fun yc hyc => ?_) | refine goL (fun _ _ => inferInstance) ?_ | with_reducible intro _ | refine goO (by first | omega | (simp only [List.length_cons, List.length_nil]; omega)) ?_ | fail))
        exact backN (σ0 := σ) Try.results3 (fun σ' _ _ => hK σ' inferInstance)
    | false =>
      haveI : ∀ A, Is (applyR [] ⟨UInt32.ofNat 0, ⟨none, 0, 0, []⟩, ⟨A, 1, 1, [⟨Int64.ofInt ((7 : Nat) : Int), key0⟩]⟩, key0, ⟨none, 0, 0, []⟩, ⟨none, 0, 0, []⟩, Int64.ofInt ((0 : Nat) : Int)⟩ id (UInt32.ofNat md.toNat)) ([ripec id md false], [], 0) := fun A => ⟨by kernel_rfl⟩
      haveI : ∀ A, Is (applyR [ripec id md false] ⟨UInt32.ofNat 0, ⟨A, 1 - 0, 2 - 0, List.take (1 - 0) (List.drop 0 [⟨id, UInt32.ofNat 0⟩, ⟨id, UInt32.ofNat 0⟩])⟩, ⟨none, 0, 0, []⟩, key0, ⟨none, 0, 0, []⟩, ⟨none, 0, 0, []⟩, Int64.ofInt ((0 : Nat) : Int)⟩ other (UInt32.ofNat ((md.toNat : Int) + (bh.toNat : Int)).toNat)) ([], [ripec id md false], 0) := fun A => ⟨(apply_one rfl rfl hid).trans (by rw [hrf]; rfl)⟩
      haveI : BV (ripe [ripec id md false][0]! (UInt32.ofNat ((md.toNat : Int) + (bh.toNat : Int)).toNat)) true := ⟨hrf⟩
      refine calls_enter Try.func3 rfl _ Try.ntmps3 rfl ?_
      (repeat (first | refine go ?_ | refine goR ?_ | refine goS (fun yc hyc => ?_) | refine goL (fun _ _ => inferInstance) ?_ | with_reducible intro _ | refine goO (by first | omega | (simp only [List.length_cons, List.length_nil]; omega)) ?_ | fail))
      exact backN (σ0 := σ) Try.results3 (fun σ' _ _ => hK σ' inferInstance)⟩
end
end Go.Proofs.Ytpnbfohdfffolaa
