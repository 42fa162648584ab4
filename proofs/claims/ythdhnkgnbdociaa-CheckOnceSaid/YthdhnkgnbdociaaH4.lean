/- The laws' own functions: heavy, shown; CheckTells, by contract. No condition. -/
import Derived.Test.YthdhnkgnbdociaaH3
set_option linter.all false
set_option maxHeartbeats 40000000
set_option synthInstance.maxHeartbeats 2000000
set_option synthInstance.maxSize 100000
namespace Go.Proofs.Ythdhnkgnbdociaa
open Go Go.RowKit
def heavyT (t : Tx) : Bool := decide (60 < t.ins.n) || decide (60 < t.outs.n) || decide (60 < t.nulls.n) || decide (60 < t.notes.n)
theorem heavyT_f {t : Tx} (h : heavyT t = false) : t.ins.n ≤ 60 ∧ t.outs.n ≤ 60 ∧ t.nulls.n ≤ 60 ∧ t.notes.n ≤ 60 := by
  unfold heavyT at h
  simp only [Bool.or_eq_false_iff, decide_eq_false_iff_not] at h
  omega
instance is_zeroTx {a : UInt32} {b : Int64} {base : Bool} : Is (chkM ⟨a, ⟨none, 0, 0, []⟩, ⟨none, 0, 0, []⟩, key0, ⟨none, 0, 0, []⟩, ⟨none, 0, 0, []⟩, b⟩ base) 110 := ⟨by
  have h1 : encE ⟨a, ⟨none, 0, 0, []⟩, ⟨none, 0, 0, []⟩, key0, ⟨none, 0, 0, []⟩, ⟨none, 0, 0, []⟩, b⟩ = 0 := by simp [encE, maxL]
  have h2 : emptyB ⟨a, ⟨none, 0, 0, []⟩, ⟨none, 0, 0, []⟩, key0, ⟨none, 0, 0, []⟩, ⟨none, 0, 0, []⟩, b⟩ = true := by simp [emptyB]
  unfold chkM
  rw [if_pos h1, h2]; rfl⟩
instance bv_ptD0 : BV (ptD []) true := ⟨rfl⟩
section
variable {σ : St} {v1 v2 : Value} {t u : Tx} {base : Bool}
instance rule_heavy11 [h : EncV σ txE v1 t] {bb : Bool} [q : BV (heavyT t) bb] : CallRule Try.prog 9 [v1] σ (fun K _ => ∀ σ', Nx σ σ' .no → K (.bool bb) σ') := ⟨fun K E hK => by
  have hq := q.eq; subst hq
  have e1 : v1 = .agg (cats [#[.int .u32 (t.exp.toNat : Int)], #[.slice t.ins.A t.ins.n t.ins.c], #[.slice t.outs.A t.outs.n t.outs.c], kc t.anchor, #[.slice t.nulls.A t.nulls.n t.nulls.c], #[.slice t.notes.A t.notes.n t.notes.c], #[.int .i64 t.bal.toInt]]) := h.eq
  subst e1
  haveI : OkE σ txE t := ⟨h.ok⟩
  have tr : heavyT t = true → ∀ σ', Nx σ σ' .no → K (.bool true) σ' := fun e => by rw [e] at hK; exact hK
  by_cases h1 : 60 < t.ins.n
  · haveI : BV (decide ((t.ins.n : Int) > 60)) true := ⟨decide_eq_true (by omega)⟩
    have hK := tr (by unfold heavyT; simp [h1])
    refine calls_enter Try.func9 rfl _ Try.ntmps9 rfl ?_
    (repeat (first | refine go ?_ | refine goR ?_ | refine goS (fun yc hyc => ?_) | refine goL (fun _ _ => inferInstance) ?_ | with_reducible intro _ | refine goO (by first | omega | (simp only [List.length_cons, List.length_nil]; omega)) ?_ | fail))
    exact backN (σ0 := σ) Try.results9 (fun σ' _ _ => hK σ' inferInstance)
  · haveI : BV (decide ((t.ins.n : Int) > 60)) false := ⟨decide_eq_false (by omega)⟩
    by_cases h2 : 60 < t.outs.n
    · haveI : BV (decide ((t.outs.n : Int) > 60)) true := ⟨decide_eq_true (by omega)⟩
      have hK := tr (by unfold heavyT; simp [h2])
      refine calls_enter Try.func9 rfl _ Try.ntmps9 rfl ?_
      (repeat (first | refine go ?_ | refine goR ?_ | refine goS (fun yc hyc => ?_) | refine goL (fun _ _ => inferInstance) ?_ | with_reducible intro _ | refine goO (by first | omega | (simp only [List.length_cons, List.length_nil]; omega)) ?_ | fail))
      exact backN (σ0 := σ) Try.results9 (fun σ' _ _ => hK σ' inferInstance)
    · haveI : BV (decide ((t.outs.n : Int) > 60)) false := ⟨decide_eq_false (by omega)⟩
      by_cases h3 : 60 < t.nulls.n
      · haveI : BV (decide ((t.nulls.n : Int) > 60)) true := ⟨decide_eq_true (by omega)⟩
        have hK := tr (by unfold heavyT; simp [h3])
        refine calls_enter Try.func9 rfl _ Try.ntmps9 rfl ?_
        (repeat (first | refine go ?_ | refine goR ?_ | refine goS (fun yc hyc => ?_) | refine goL (fun _ _ => inferInstance) ?_ | with_reducible intro _ | refine goO (by first | omega | (simp only [List.length_cons, List.length_nil]; omega)) ?_ | fail))
        exact backN (σ0 := σ) Try.results9 (fun σ' _ _ => hK σ' inferInstance)
      · haveI : BV (decide ((t.nulls.n : Int) > 60)) false := ⟨decide_eq_false (by omega)⟩
        haveI : BV (decide ((t.notes.n : Int) > 60)) (heavyT t) := ⟨by
          unfold heavyT
          simp [h1, h2, h3]; omega⟩
        refine calls_enter Try.func9 rfl _ Try.ntmps9 rfl ?_
        (repeat (first | refine go ?_ | refine goR ?_ | refine goS (fun yc hyc => ?_) | refine goL (fun _ _ => inferInstance) ?_ | with_reducible intro _ | refine goO (by first | omega | (simp only [List.length_cons, List.length_nil]; omega)) ?_ | fail))
        exact backN (σ0 := σ) Try.results9 (fun σ' _ _ => hK σ' inferInstance)⟩
instance rule_shown11 : CallRule Try.prog 10 [] σ (fun K _ => ∀ σ', Nx σ σ' .no → K (.bool true) σ') := ⟨fun K E hK => by
  refine calls_enter Try.func10 rfl _ Try.ntmps10 rfl ?_
  (repeat (first | refine go ?_ | refine goR ?_ | refine goS (fun yc hyc => ?_) | refine goL (fun _ _ => inferInstance) ?_ | with_reducible intro _ | refine goO (by first | omega | (simp only [List.length_cons, List.length_nil]; omega)) ?_ | fail))
  exact backN (σ0 := σ) Try.results10 (fun σ' _ _ => hK σ' inferInstance)⟩
instance rule_CheckTells [ok : OkE σ txE t] [ok2 : OkE σ txE u] : CallRule Try.prog 7 [.agg (cats [#[.int .u32 (t.exp.toNat : Int)], #[.slice t.ins.A t.ins.n t.ins.c], #[.slice t.outs.A t.outs.n t.outs.c], kc t.anchor, #[.slice t.nulls.A t.nulls.n t.nulls.c], #[.slice t.notes.A t.notes.n t.notes.c], #[.int .i64 t.bal.toInt]]), .agg (cats [#[.int .u32 (u.exp.toNat : Int)], #[.slice u.ins.A u.ins.n u.ins.c], #[.slice u.outs.A u.outs.n u.outs.c], kc u.anchor, #[.slice u.nulls.A u.nulls.n u.nulls.c], #[.slice u.notes.A u.notes.n u.notes.c], #[.int .i64 u.bal.toInt]]), .bool base] σ (fun K _ => ∀ σ', Nx σ σ' .no → K (.bool true) σ') := ⟨fun K E hK => by
  cases h1 : heavyT t with
  | true =>
    haveI : BV (heavyT t) true := ⟨h1⟩
    refine calls_enter Try.func7 rfl _ Try.ntmps7 rfl ?_
    (repeat (first | refine go ?_ | refine goR ?_ | refine goS (fun yc hyc => ?_) | refine goL (fun _ _ => inferInstance) ?_ | with_reducible intro _ | refine goO (by first | omega | (simp only [List.length_cons, List.length_nil]; omega)) ?_ | fail))
    exact backN (σ0 := σ) Try.results7 (fun σ' _ _ => hK σ' inferInstance)
  | false =>
    haveI : BV (heavyT t) false := ⟨h1⟩
    have f1 := heavyT_f h1
    cases h2 : heavyT u with
    | true =>
      haveI : BV (heavyT u) true := ⟨h2⟩
      refine calls_enter Try.func7 rfl _ Try.ntmps7 rfl ?_
      (repeat (first | refine go ?_ | refine goR ?_ | refine goS (fun yc hyc => ?_) | refine goL (fun _ _ => inferInstance) ?_ | with_reducible intro _ | refine goO (by first | omega | (simp only [List.length_cons, List.length_nil]; omega)) ?_ | fail))
      exact backN (σ0 := σ) Try.results7 (fun σ' _ _ => hK σ' inferInstance)
    | false =>
      haveI : BV (heavyT u) false := ⟨h2⟩
      have f2 := heavyT_f h2
      refine calls_enter Try.func7 rfl _ Try.ntmps7 rfl ?_
      (repeat (first | refine go ?_ | refine goR ?_ | refine goS (fun yc hyc => ?_) | refine goL (fun _ _ => inferInstance) ?_ | with_reducible intro _ | refine goO (by first | omega | (simp only [List.length_cons, List.length_nil]; omega)) ?_ | fail))
      refine WC.loopW 35183298347584 .no (fun (i : Nat) f s => At f 9 (.int .i64 (i : Int)) ∧ i ≤ t.outs.n) (fun i => t.outs.n - i) 0
        ⟨At.to (.int .i64 0) rfl, Nat.zero_le _⟩ ?_
      rintro i f s ha hs ⟨a8, hi⟩
      by_cases hlt : i < t.outs.n
      · haveI : BV (decide ((i : Int) < (t.outs.n : Int))) true := ⟨by simpa using hlt⟩
        haveI : IdxLt i t.outs.n := ⟨hlt⟩
        haveI : Fits .i64 ((i : Int) + 1) := Fits.i64 (by omega) (by omega)
        (repeat (first | refine go ?_ | refine goR ?_ | refine goS (fun yc hyc => ?_) | refine goL (fun _ _ => inferInstance) ?_ | with_reducible intro _ | refine goO (by first | omega | (simp only [List.length_cons, List.length_nil]; omega)) ?_ | fail))
        refine WC.draw [] (.p 0 (.p 1 (.l 2 (.l 3 (.p 4 (.p 5 (.l 6 (.l 7 (.p 8 .nil))))))))) mixed (by decide +kernel) ?_
        (repeat' (first | refine go ?_ | refine goR ?_ | refine goS (fun yc hyc => ?_) | refine goL (fun _ _ => inferInstance) ?_ | refine goF ?_ ?_ | with_reducible intro _ | refine goO (by first | omega | (simp only [List.length_cons, List.length_nil]; omega)) ?_ | fail))
        all_goals exact loop_w (i + 1) ⟨At.to (.int .i64 ((i : Int) + 1)) (by simp), hlt⟩ (by omega)
      · haveI : BV (decide ((i : Int) < (t.outs.n : Int))) false := ⟨by simpa using hlt⟩
        (repeat (first | refine go ?_ | refine goR ?_ | refine goS (fun yc hyc => ?_) | refine goL (fun _ _ => inferInstance) ?_ | with_reducible intro _ | refine goO (by first | omega | (simp only [List.length_cons, List.length_nil]; omega)) ?_ | fail))
        refine WC.draw [] (.l 0 (.p 1 (.l 3 (.p 4 (.h 2 (.h 5 (.p 6 (.p 7 (.l 8 (.l 9 (.l 11 (.l 12 (.h 10 (.h 13 (.p 14 (.p 15 (.p 16 (.l 17 (.l 18 (.l 20 (.l 21 (.h 19 (.h 22 (.p 23 (.p 24 (.p 25 .nil)))))))))))))))))))))))))) mixed (by decide +kernel) ?_
        (repeat' (first | refine go ?_ | refine goR ?_ | refine goS (fun yc hyc => ?_) | refine goL (fun _ _ => inferInstance) ?_ | refine goF ?_ ?_ | with_reducible intro _ | refine goO (by first | omega | (simp only [List.length_cons, List.length_nil]; omega)) ?_ | fail))
        all_goals exact backN (σ0 := σ) Try.results7 (fun σ' _ _ => hK σ' inferInstance)⟩
end
end Go.Proofs.Ythdhnkgnbdociaa
