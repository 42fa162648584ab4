/- The law CheckMany, by contract. No condition. -/
import Derived.Test.YthdhnkgnbdociaaH5
set_option linter.all false
set_option maxHeartbeats 40000000
set_option synthInstance.maxHeartbeats 2000000
set_option synthInstance.maxSize 100000
namespace Go.Proofs.Ythdhnkgnbdociaa
open Go Go.RowKit
section
variable {σ : St} {v1 v2 : Value} {t u : Tx} {base : Bool} {k : Key}
instance rule_CheckMany [ok : OkE σ txE t] : CallRule Try.prog 6 [.agg (cats [#[.int .u32 (t.exp.toNat : Int)], #[.slice t.ins.A t.ins.n t.ins.c], #[.slice t.outs.A t.outs.n t.outs.c], kc t.anchor, #[.slice t.nulls.A t.nulls.n t.nulls.c], #[.slice t.notes.A t.notes.n t.notes.c], #[.int .i64 t.bal.toInt]]), .agg (kc k), .bool base] σ (fun K _ => ∀ σ', Nx σ σ' .no → K (.bool true) σ') := ⟨fun K E hK => by
  cases h1 : heavyT t with
  | true =>
    haveI : BV (heavyT t) true := ⟨h1⟩
    refine calls_enter Try.func6 rfl _ Try.ntmps6 rfl ?_
    (repeat (first | refine go ?_ | refine goR ?_ | refine goS (fun yc hyc => ?_) | refine goL (fun _ _ => inferInstance) ?_ | with_reducible intro _ | refine goO (by first | omega | (simp only [List.length_cons, List.length_nil]; omega)) ?_ | fail))
    exact backN (σ0 := σ) Try.results6 (fun σ' _ _ => hK σ' inferInstance)
  | false =>
    haveI : BV (heavyT t) false := ⟨h1⟩
    have f1 := heavyT_f h1
    refine calls_enter Try.func6 rfl _ Try.ntmps6 rfl ?_
    (repeat (first | refine go ?_ | refine goR ?_ | refine goS (fun yc hyc => ?_) | refine goL (fun _ _ => inferInstance) ?_ | with_reducible intro _ | refine goO (by first | omega | (simp only [List.length_cons, List.length_nil]; omega)) ?_ | fail))
    rename_i b3 _ _ _ _ b4 _ _ _ _ _ _ _ _ _ _ _ _ _
    refine WC.loopW 134185088 (.one b3 29) (fun (i : Nat) f s => At f 7 (.int .i64 (i : Int)) ∧ i ≤ 41 ∧ ∃ A1 c1 l1, Own s b3 29 (cats [#[.int .u32 (t.exp.toNat : Int)], #[.slice t.ins.A t.ins.n t.ins.c], #[.slice t.outs.A t.outs.n t.outs.c], kc t.anchor, #[.slice t.nulls.A t.nulls.n t.nulls.c], #[.slice A1 (t.notes.n + i) c1], #[.int .i64 t.bal.toInt]]) ∧ SL s A1 (t.notes.n + i) c1 keyE l1) (fun i => 41 - i) 0
      ⟨At.to (.int .i64 0) rfl, Nat.zero_le _, t.notes.A, t.notes.c, t.notes.l, inferInstance, inferInstance⟩ ?_
    rintro i f s ha hs ⟨a7, hi, A1, c1, l1, ho, hsl⟩
    by_cases hlt : i < 41
    · haveI : BV (decide ((i : Int) < 41)) true := ⟨decide_eq_true (by omega)⟩
      haveI : Fits .i64 ((i : Int) + 1) := Fits.i64 (by omega) (by omega)
      have en : 0 + (t.notes.n + i) + 1 = t.notes.n + (i + 1) := by omega
      (repeat (first | refine go ?_ | refine goR ?_ | refine goS (fun yc hyc => ?_) | refine goL (fun _ _ => inferInstance) ?_ | with_reducible intro _ | refine goO (by first | omega | (simp only [List.length_cons, List.length_nil]; omega)) ?_ | fail))
      refine WC.draw [3, 6, 8] (.l 1 (.l 2 (.f 0 (.f 3 (.h 4 (.h 5 (.h 6 (.l 7 (.h 8 .nil))))) 4 (.f 3 (.h 5 (.h 6 (.l 7 (.h 8 .nil)))) 5 (.h 3 (.h 6 (.l 7 (.h 8 .nil)))))) 4 (.f 0 (.f 3 (.h 5 (.h 6 (.l 7 (.h 8 .nil)))) 5 (.h 3 (.h 6 (.l 7 (.h 8 .nil))))) 5 (.h 0 (.h 3 (.h 6 (.l 7 (.h 8 .nil))))))))) mixed (by decide +kernel) ?_
      (repeat' (first | refine go ?_ | refine goS (fun yc hyc => ?_) | refine goL (fun _ _ => inferInstance) ?_ | refine goF ?_ ?_ | with_reducible intro _ | refine goO (by first | omega | (simp only [List.length_cons, List.length_nil]; omega)) ?_ | fail))
      all_goals
        rename Option Addr => A9
        refine WC.freeze A9 (fun s9 hn9 hs9 => ?_)
        (repeat (first | refine go ?_ | refine goR ?_ | refine goS (fun yc hyc => ?_) | refine goL (fun _ _ => inferInstance) ?_ | with_reducible intro _ | refine goO (by first | omega | (simp only [List.length_cons, List.length_nil]; omega)) ?_ | fail))
        exact loop_w (i + 1) ⟨At.to (.int .i64 ((i : Int) + 1)) (by simp), hlt, A9, _, _, by rw [← en]; infer_instance, by rw [← en]; infer_instance⟩ (by omega)
    · haveI : BV (decide ((i : Int) < 41)) false := ⟨decide_eq_false (by omega)⟩
      haveI : Is (chkM ⟨t.exp, ⟨t.ins.A, t.ins.n, t.ins.c, t.ins.l⟩, ⟨t.outs.A, t.outs.n, t.outs.c, t.outs.l⟩, t.anchor, ⟨t.nulls.A, t.nulls.n, t.nulls.c, t.nulls.l⟩, ⟨A1, t.notes.n + i, c1, l1⟩, t.bal⟩ base) 51 := ⟨by
        unfold chkM
        have e : encE ⟨t.exp, ⟨t.ins.A, t.ins.n, t.ins.c, t.ins.l⟩, ⟨t.outs.A, t.outs.n, t.outs.c, t.outs.l⟩, t.anchor, ⟨t.nulls.A, t.nulls.n, t.nulls.c, t.nulls.l⟩, ⟨A1, t.notes.n + i, c1, l1⟩, t.bal⟩ = 51 := encE_many (by rw [maxL4]; show 40 < max _ (t.notes.n + i); omega)
        rw [e]; rfl⟩
      (repeat (first | refine go ?_ | refine goR ?_ | refine goS (fun yc hyc => ?_) | refine goL (fun _ _ => inferInstance) ?_ | with_reducible intro _ | refine goO (by first | omega | (simp only [List.length_cons, List.length_nil]; omega)) ?_ | fail))
      exact backN (σ0 := σ) Try.results6 (fun σ' _ _ => hK σ' inferInstance)⟩
end
end Go.Proofs.Ythdhnkgnbdociaa
