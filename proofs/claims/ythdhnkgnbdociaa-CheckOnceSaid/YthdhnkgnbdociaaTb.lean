/- Transactions: is it a coinbase, by contract. No condition. -/
import Derived.Test.YthdhnkgnbdociaaEc
import Derived.Test.YthdhnkgnbdociaaRn
set_option linter.all false
set_option maxHeartbeats 40000000
set_option synthInstance.maxHeartbeats 2000000
set_option synthInstance.maxSize 100000
namespace Go.Proofs.Ythdhnkgnbdociaa
open Go Go.RowKit
def cbM (t : Tx) : Bool := decide ((t.ins.l.length : Int) = 1) && decide (t.ins.l[0]!.tx = key0)
section
variable {σ : St} {v1 v2 : Value} {t : Tx} {id : Key}
instance rule_Coinbase [h : EncV σ txE v1 t] {bb : Bool} [q : BV (cbM t) bb] : CallRule Try.prog 44 [v1] σ (fun K _ => ∀ σ', Nx σ σ' .no → K (.bool bb) σ') := ⟨fun K E hK => by
  have e1 : v1 = .agg (cats [#[.int .u32 (t.exp.toNat : Int)], #[.slice t.ins.A t.ins.n t.ins.c], #[.slice t.outs.A t.outs.n t.outs.c], kc t.anchor, #[.slice t.nulls.A t.nulls.n t.nulls.c], #[.slice t.notes.A t.notes.n t.notes.c], #[.int .i64 t.bal.toInt]]) := h.eq
  subst e1
  haveI : OkE σ txE t := ⟨h.ok⟩
  have hq := q.eq; subst hq
  have hl := (inferInstance : SL σ t.ins.A t.ins.n t.ins.c ptE t.ins.l).len
  by_cases h1 : t.ins.n = 1
  · haveI : BV (decide ((t.ins.n : Int) = 1)) true := ⟨by simp; omega⟩
    haveI : IdxLt 0 t.ins.n := ⟨by omega⟩
    have e : cbM t = decide (t.ins.l[0]!.tx = key0) := by unfold cbM; rw [hl, h1]; rfl
    rw [e] at hK
    refine calls_enter Try.func44 rfl _ Try.ntmps44 rfl ?_
    (repeat (first | refine go ?_ | refine goR ?_ | refine goS (fun yc hyc => ?_) | refine goL (fun _ _ => inferInstance) ?_ | with_reducible intro _ | refine goO (by first | omega | (simp only [List.length_cons, List.length_nil]; omega)) ?_ | fail))
    exact backN (σ0 := σ) Try.results44 (fun σ' _ _ => hK σ' inferInstance)
  · haveI : BV (decide ((t.ins.n : Int) = 1)) false := ⟨by simp; omega⟩
    have e : cbM t = false := by unfold cbM; rw [hl]; simp; omega
    rw [e] at hK
    refine calls_enter Try.func44 rfl _ Try.ntmps44 rfl ?_
    (repeat (first | refine go ?_ | refine goR ?_ | refine goS (fun yc hyc => ?_) | refine goL (fun _ _ => inferInstance) ?_ | with_reducible intro _ | refine goO (by first | omega | (simp only [List.length_cons, List.length_nil]; omega)) ?_ | fail))
    exact backN (σ0 := σ) Try.results44 (fun σ' _ _ => hK σ' inferInstance)⟩
instance rule_ref_Coinbase [h : EncV σ txE v1 t] {bb : Bool} [q : BV (cbM t) bb] : CallRule Try.prog 22 [v1] σ (fun K _ => ∀ σ', Nx σ σ' .no → K (.bool bb) σ') := ⟨fun K E hK => by
  have e1 : v1 = .agg (cats [#[.int .u32 (t.exp.toNat : Int)], #[.slice t.ins.A t.ins.n t.ins.c], #[.slice t.outs.A t.outs.n t.outs.c], kc t.anchor, #[.slice t.nulls.A t.nulls.n t.nulls.c], #[.slice t.notes.A t.notes.n t.notes.c], #[.int .i64 t.bal.toInt]]) := h.eq
  subst e1
  haveI : OkE σ txE t := ⟨h.ok⟩
  have hq := q.eq; subst hq
  have hl := (inferInstance : SL σ t.ins.A t.ins.n t.ins.c ptE t.ins.l).len
  by_cases h1 : t.ins.n = 1
  · haveI : BV (decide ((t.ins.n : Int) = 1)) true := ⟨by simp; omega⟩
    haveI : IdxLt 0 t.ins.n := ⟨by omega⟩
    have e : cbM t = decide (t.ins.l[0]!.tx = key0) := by unfold cbM; rw [hl, h1]; rfl
    rw [e] at hK
    refine calls_enter Try.func22 rfl _ Try.ntmps22 rfl ?_
    (repeat (first | refine go ?_ | refine goR ?_ | refine goS (fun yc hyc => ?_) | refine goL (fun _ _ => inferInstance) ?_ | with_reducible intro _ | refine goO (by first | omega | (simp only [List.length_cons, List.length_nil]; omega)) ?_ | fail))
    exact backN (σ0 := σ) Try.results22 (fun σ' _ _ => hK σ' inferInstance)
  · haveI : BV (decide ((t.ins.n : Int) = 1)) false := ⟨by simp; omega⟩
    have e : cbM t = false := by unfold cbM; rw [hl]; simp; omega
    rw [e] at hK
    refine calls_enter Try.func22 rfl _ Try.ntmps22 rfl ?_
    (repeat (first | refine go ?_ | refine goR ?_ | refine goS (fun yc hyc => ?_) | refine goL (fun _ _ => inferInstance) ?_ | with_reducible intro _ | refine goO (by first | omega | (simp only [List.length_cons, List.length_nil]; omega)) ?_ | fail))
    exact backN (σ0 := σ) Try.results22 (fun σ' _ _ => hK σ' inferInstance)⟩
end
end Go.Proofs.Ythdhnkgnbdociaa
