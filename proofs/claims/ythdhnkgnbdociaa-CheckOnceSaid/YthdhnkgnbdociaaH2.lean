/- check.Check, Fight, and the reference's, by contract. No condition. (Printed by gen_h2.py.) -/
import Derived.Test.YthdhnkgnbdociaaH1
import Derived.Test.YthdhnkgnbdociaaTg
import Derived.Test.YthdhnkgnbdociaaMo
import Derived.Test.YthdhnkgnbdociaaK5
set_option linter.all false
set_option maxHeartbeats 40000000
set_option synthInstance.maxHeartbeats 2000000
set_option synthInstance.maxSize 100000
namespace Go.Proofs.Ythdhnkgnbdociaa
open Go Go.RowKit
def emptyB (t : Tx) : Bool := (decide (t.ins.n = 0) && decide (t.nulls.n = 0)) || (decide (t.outs.n = 0) && decide (t.notes.n = 0))
def coinB (t : Tx) (base : Bool) : Bool := if base then !cbM t || decide (0 < t.nulls.n) else zeroM t
def repB (t : Tx) : Bool := !ptD t.ins.l || !distK t.nulls.l
def moneyB (t : Tx) : Bool := (sumM (valsM t)).isNone || decide (2100000000000000 < t.bal.toInt) || decide (t.bal.toInt < -2100000000000000) || (decide (0 < t.bal.toInt) && decide (t.nulls.n = 0)) || (decide (t.bal.toInt < 0) && decide (t.notes.n = 0))
def errsM : List (Bool × Int) → Int
  | [] => 0
  | (b, e) :: l => if b then e else errsM l
/-- what may not be of a transaction -/
def chkM (t : Tx) (base : Bool) : Int := if encE t = 0 then errsM [(emptyB t, 110), (coinB t base, 112), (repB t, 111), (moneyB t, 20)] else encE t
def fightM (a b : Tx) : Bool := (a.ins.l.any fun p => b.ins.l.any fun x => decide (x = p)) || meetK a.nulls.l b.nulls.l
class SmallT (t : Tx) : Prop where
  h : t.ins.n ≤ 1000 ∧ t.outs.n ≤ 1000 ∧ t.nulls.n ≤ 1000 ∧ t.notes.n ≤ 1000
theorem small_enc {t : Tx} (h : encE t = 0) : SmallT t := ⟨by
  unfold encE at h
  split at h
  · cases h
  · rename_i h1
    rw [maxL4] at h1; omega⟩
section
variable {σ : St} {v1 v2 : Value} {t u : Tx} {base : Bool}
instance rule_faults1 [h : EncV σ txE v1 t] {bb : Bool} [q : BV (emptyB t) bb] : CallRule Try.prog 42 [v1, .bool base] σ (fun K _ => ∀ σ', Nx σ σ' .no → K (.bool bb) σ') := ⟨fun K E hK => by
  have hq := q.eq; subst hq
  have e1 : v1 = .agg (cats [#[.int .u32 (t.exp.toNat : Int)], #[.slice t.ins.A t.ins.n t.ins.c], #[.slice t.outs.A t.outs.n t.outs.c], kc t.anchor, #[.slice t.nulls.A t.nulls.n t.nulls.c], #[.slice t.notes.A t.notes.n t.notes.c], #[.int .i64 t.bal.toInt]]) := h.eq
  subst e1
  haveI : OkE σ txE t := ⟨h.ok⟩
  have hl1 := (inferInstance : SL σ t.ins.A t.ins.n t.ins.c ptE t.ins.l).len
  have hl2 := (inferInstance : SL σ t.outs.A t.outs.n t.outs.c otE t.outs.l).len
  have hl3 := (inferInstance : SL σ t.nulls.A t.nulls.n t.nulls.c keyE t.nulls.l).len
  have hl4 := (inferInstance : SL σ t.notes.A t.notes.n t.notes.c keyE t.notes.l).len
  by_cases h1 : t.ins.n = 0
  · skip
    haveI : BV (decide (((t.ins.n : Int) = 0))) true := ⟨decide_eq_true (by omega)⟩
    by_cases h2 : t.nulls.n = 0
    · skip
      haveI : BV (decide (((t.nulls.n : Int) = 0))) true := ⟨decide_eq_true (by omega)⟩
      by_cases h3 : t.outs.n = 0
      · skip
        haveI : BV (decide (((t.outs.n : Int) = 0))) true := ⟨decide_eq_true (by omega)⟩
        by_cases h4 : t.notes.n = 0
        · skip
          haveI : BV (decide (((t.notes.n : Int) = 0))) true := ⟨decide_eq_true (by omega)⟩
          have e : emptyB t = true := by unfold emptyB; simp [h1, h2, h3, h4]
          rw [e] at hK
          refine calls_enter Try.func42 rfl _ Try.ntmps42 rfl ?_
          (repeat (first | refine go ?_ | refine goR ?_ | refine goS (fun yc hyc => ?_) | refine goL (fun _ _ => inferInstance) ?_ | with_reducible intro _ | refine goO (by first | omega | (simp only [List.length_cons, List.length_nil]; omega)) ?_ | fail))
          exact backN (σ0 := σ) Try.results42 (fun σ' _ _ => hK σ' inferInstance)
        · skip
          haveI : BV (decide (((t.notes.n : Int) = 0))) false := ⟨decide_eq_false (by omega)⟩
          have e : emptyB t = true := by unfold emptyB; simp [h1, h2, h3, h4]
          rw [e] at hK
          refine calls_enter Try.func42 rfl _ Try.ntmps42 rfl ?_
          (repeat (first | refine go ?_ | refine goR ?_ | refine goS (fun yc hyc => ?_) | refine goL (fun _ _ => inferInstance) ?_ | with_reducible intro _ | refine goO (by first | omega | (simp only [List.length_cons, List.length_nil]; omega)) ?_ | fail))
          exact backN (σ0 := σ) Try.results42 (fun σ' _ _ => hK σ' inferInstance)
      · skip
        haveI : BV (decide (((t.outs.n : Int) = 0))) false := ⟨decide_eq_false (by omega)⟩
        by_cases h4 : t.notes.n = 0
        · skip
          haveI : BV (decide (((t.notes.n : Int) = 0))) true := ⟨decide_eq_true (by omega)⟩
          have e : emptyB t = true := by unfold emptyB; simp [h1, h2, h3, h4]
          rw [e] at hK
          refine calls_enter Try.func42 rfl _ Try.ntmps42 rfl ?_
          (repeat (first | refine go ?_ | refine goR ?_ | refine goS (fun yc hyc => ?_) | refine goL (fun _ _ => inferInstance) ?_ | with_reducible intro _ | refine goO (by first | omega | (simp only [List.length_cons, List.length_nil]; omega)) ?_ | fail))
          exact backN (σ0 := σ) Try.results42 (fun σ' _ _ => hK σ' inferInstance)
        · skip
          haveI : BV (decide (((t.notes.n : Int) = 0))) false := ⟨decide_eq_false (by omega)⟩
          have e : emptyB t = true := by unfold emptyB; simp [h1, h2, h3, h4]
          rw [e] at hK
          refine calls_enter Try.func42 rfl _ Try.ntmps42 rfl ?_
          (repeat (first | refine go ?_ | refine goR ?_ | refine goS (fun yc hyc => ?_) | refine goL (fun _ _ => inferInstance) ?_ | with_reducible intro _ | refine goO (by first | omega | (simp only [List.length_cons, List.length_nil]; omega)) ?_ | fail))
          exact backN (σ0 := σ) Try.results42 (fun σ' _ _ => hK σ' inferInstance)
    · skip
      haveI : BV (decide (((t.nulls.n : Int) = 0))) false := ⟨decide_eq_false (by omega)⟩
      by_cases h3 : t.outs.n = 0
      · skip
        haveI : BV (decide (((t.outs.n : Int) = 0))) true := ⟨decide_eq_true (by omega)⟩
        by_cases h4 : t.notes.n = 0
        · skip
          haveI : BV (decide (((t.notes.n : Int) = 0))) true := ⟨decide_eq_true (by omega)⟩
          have e : emptyB t = true := by unfold emptyB; simp [h1, h2, h3, h4]
          rw [e] at hK
          refine calls_enter Try.func42 rfl _ Try.ntmps42 rfl ?_
          (repeat (first | refine go ?_ | refine goR ?_ | refine goS (fun yc hyc => ?_) | refine goL (fun _ _ => inferInstance) ?_ | with_reducible intro _ | refine goO (by first | omega | (simp only [List.length_cons, List.length_nil]; omega)) ?_ | fail))
          exact backN (σ0 := σ) Try.results42 (fun σ' _ _ => hK σ' inferInstance)
        · skip
          haveI : BV (decide (((t.notes.n : Int) = 0))) false := ⟨decide_eq_false (by omega)⟩
          have e : emptyB t = false := by unfold emptyB; simp [h1, h2, h3, h4]
          rw [e] at hK
          refine calls_enter Try.func42 rfl _ Try.ntmps42 rfl ?_
          (repeat (first | refine go ?_ | refine goR ?_ | refine goS (fun yc hyc => ?_) | refine goL (fun _ _ => inferInstance) ?_ | with_reducible intro _ | refine goO (by first | omega | (simp only [List.length_cons, List.length_nil]; omega)) ?_ | fail))
          exact backN (σ0 := σ) Try.results42 (fun σ' _ _ => hK σ' inferInstance)
      · skip
        haveI : BV (decide (((t.outs.n : Int) = 0))) false := ⟨decide_eq_false (by omega)⟩
        by_cases h4 : t.notes.n = 0
        · skip
          haveI : BV (decide (((t.notes.n : Int) = 0))) true := ⟨decide_eq_true (by omega)⟩
          have e : emptyB t = false := by unfold emptyB; simp [h1, h2, h3, h4]
          rw [e] at hK
          refine calls_enter Try.func42 rfl _ Try.ntmps42 rfl ?_
          (repeat (first | refine go ?_ | refine goR ?_ | refine goS (fun yc hyc => ?_) | refine goL (fun _ _ => inferInstance) ?_ | with_reducible intro _ | refine goO (by first | omega | (simp only [List.length_cons, List.length_nil]; omega)) ?_ | fail))
          exact backN (σ0 := σ) Try.results42 (fun σ' _ _ => hK σ' inferInstance)
        · skip
          haveI : BV (decide (((t.notes.n : Int) = 0))) false := ⟨decide_eq_false (by omega)⟩
          have e : emptyB t = false := by unfold emptyB; simp [h1, h2, h3, h4]
          rw [e] at hK
          refine calls_enter Try.func42 rfl _ Try.ntmps42 rfl ?_
          (repeat (first | refine go ?_ | refine goR ?_ | refine goS (fun yc hyc => ?_) | refine goL (fun _ _ => inferInstance) ?_ | with_reducible intro _ | refine goO (by first | omega | (simp only [List.length_cons, List.length_nil]; omega)) ?_ | fail))
          exact backN (σ0 := σ) Try.results42 (fun σ' _ _ => hK σ' inferInstance)
  · skip
    haveI : BV (decide (((t.ins.n : Int) = 0))) false := ⟨decide_eq_false (by omega)⟩
    by_cases h2 : t.nulls.n = 0
    · skip
      haveI : BV (decide (((t.nulls.n : Int) = 0))) true := ⟨decide_eq_true (by omega)⟩
      by_cases h3 : t.outs.n = 0
      · skip
        haveI : BV (decide (((t.outs.n : Int) = 0))) true := ⟨decide_eq_true (by omega)⟩
        by_cases h4 : t.notes.n = 0
        · skip
          haveI : BV (decide (((t.notes.n : Int) = 0))) true := ⟨decide_eq_true (by omega)⟩
          have e : emptyB t = true := by unfold emptyB; simp [h1, h2, h3, h4]
          rw [e] at hK
          refine calls_enter Try.func42 rfl _ Try.ntmps42 rfl ?_
          (repeat (first | refine go ?_ | refine goR ?_ | refine goS (fun yc hyc => ?_) | refine goL (fun _ _ => inferInstance) ?_ | with_reducible intro _ | refine goO (by first | omega | (simp only [List.length_cons, List.length_nil]; omega)) ?_ | fail))
          exact backN (σ0 := σ) Try.results42 (fun σ' _ _ => hK σ' inferInstance)
        · skip
          haveI : BV (decide (((t.notes.n : Int) = 0))) false := ⟨decide_eq_false (by omega)⟩
          have e : emptyB t = false := by unfold emptyB; simp [h1, h2, h3, h4]
          rw [e] at hK
          refine calls_enter Try.func42 rfl _ Try.ntmps42 rfl ?_
          (repeat (first | refine go ?_ | refine goR ?_ | refine goS (fun yc hyc => ?_) | refine goL (fun _ _ => inferInstance) ?_ | with_reducible intro _ | refine goO (by first | omega | (simp only [List.length_cons, List.length_nil]; omega)) ?_ | fail))
          exact backN (σ0 := σ) Try.results42 (fun σ' _ _ => hK σ' inferInstance)
      · skip
        haveI : BV (decide (((t.outs.n : Int) = 0))) false := ⟨decide_eq_false (by omega)⟩
        by_cases h4 : t.notes.n = 0
        · skip
          haveI : BV (decide (((t.notes.n : Int) = 0))) true := ⟨decide_eq_true (by omega)⟩
          have e : emptyB t = false := by unfold emptyB; simp [h1, h2, h3, h4]
          rw [e] at hK
          refine calls_enter Try.func42 rfl _ Try.ntmps42 rfl ?_
          (repeat (first | refine go ?_ | refine goR ?_ | refine goS (fun yc hyc => ?_) | refine goL (fun _ _ => inferInstance) ?_ | with_reducible intro _ | refine goO (by first | omega | (simp only [List.length_cons, List.length_nil]; omega)) ?_ | fail))
          exact backN (σ0 := σ) Try.results42 (fun σ' _ _ => hK σ' inferInstance)
        · skip
          haveI : BV (decide (((t.notes.n : Int) = 0))) false := ⟨decide_eq_false (by omega)⟩
          have e : emptyB t = false := by unfold emptyB; simp [h1, h2, h3, h4]
          rw [e] at hK
          refine calls_enter Try.func42 rfl _ Try.ntmps42 rfl ?_
          (repeat (first | refine go ?_ | refine goR ?_ | refine goS (fun yc hyc => ?_) | refine goL (fun _ _ => inferInstance) ?_ | with_reducible intro _ | refine goO (by first | omega | (simp only [List.length_cons, List.length_nil]; omega)) ?_ | fail))
          exact backN (σ0 := σ) Try.results42 (fun σ' _ _ => hK σ' inferInstance)
    · skip
      haveI : BV (decide (((t.nulls.n : Int) = 0))) false := ⟨decide_eq_false (by omega)⟩
      by_cases h3 : t.outs.n = 0
      · skip
        haveI : BV (decide (((t.outs.n : Int) = 0))) true := ⟨decide_eq_true (by omega)⟩
        by_cases h4 : t.notes.n = 0
        · skip
          haveI : BV (decide (((t.notes.n : Int) = 0))) true := ⟨decide_eq_true (by omega)⟩
          have e : emptyB t = true := by unfold emptyB; simp [h1, h2, h3, h4]
          rw [e] at hK
          refine calls_enter Try.func42 rfl _ Try.ntmps42 rfl ?_
          (repeat (first | refine go ?_ | refine goR ?_ | refine goS (fun yc hyc => ?_) | refine goL (fun _ _ => inferInstance) ?_ | with_reducible intro _ | refine goO (by first | omega | (simp only [List.length_cons, List.length_nil]; omega)) ?_ | fail))
          exact backN (σ0 := σ) Try.results42 (fun σ' _ _ => hK σ' inferInstance)
        · skip
          haveI : BV (decide (((t.notes.n : Int) = 0))) false := ⟨decide_eq_false (by omega)⟩
          have e : emptyB t = false := by unfold emptyB; simp [h1, h2, h3, h4]
          rw [e] at hK
          refine calls_enter Try.func42 rfl _ Try.ntmps42 rfl ?_
          (repeat (first | refine go ?_ | refine goR ?_ | refine goS (fun yc hyc => ?_) | refine goL (fun _ _ => inferInstance) ?_ | with_reducible intro _ | refine goO (by first | omega | (simp only [List.length_cons, List.length_nil]; omega)) ?_ | fail))
          exact backN (σ0 := σ) Try.results42 (fun σ' _ _ => hK σ' inferInstance)
      · skip
        haveI : BV (decide (((t.outs.n : Int) = 0))) false := ⟨decide_eq_false (by omega)⟩
        by_cases h4 : t.notes.n = 0
        · skip
          haveI : BV (decide (((t.notes.n : Int) = 0))) true := ⟨decide_eq_true (by omega)⟩
          have e : emptyB t = false := by unfold emptyB; simp [h1, h2, h3, h4]
          rw [e] at hK
          refine calls_enter Try.func42 rfl _ Try.ntmps42 rfl ?_
          (repeat (first | refine go ?_ | refine goR ?_ | refine goS (fun yc hyc => ?_) | refine goL (fun _ _ => inferInstance) ?_ | with_reducible intro _ | refine goO (by first | omega | (simp only [List.length_cons, List.length_nil]; omega)) ?_ | fail))
          exact backN (σ0 := σ) Try.results42 (fun σ' _ _ => hK σ' inferInstance)
        · skip
          haveI : BV (decide (((t.notes.n : Int) = 0))) false := ⟨decide_eq_false (by omega)⟩
          have e : emptyB t = false := by unfold emptyB; simp [h1, h2, h3, h4]
          rw [e] at hK
          refine calls_enter Try.func42 rfl _ Try.ntmps42 rfl ?_
          (repeat (first | refine go ?_ | refine goR ?_ | refine goS (fun yc hyc => ?_) | refine goL (fun _ _ => inferInstance) ?_ | with_reducible intro _ | refine goO (by first | omega | (simp only [List.length_cons, List.length_nil]; omega)) ?_ | fail))
          exact backN (σ0 := σ) Try.results42 (fun σ' _ _ => hK σ' inferInstance)⟩
instance rule_faults21 {x : Pt} {bb : Bool} [q : BV (decide (x.tx = key0)) bb] : CallRule Try.prog 45 [.agg (cats [kc x.tx, #[.int .u32 (x.idx.toNat : Int)]])] σ (fun K _ => ∀ σ', Nx σ σ' .no → K (.bool bb) σ') := ⟨fun K E hK => by
  have hq := q.eq; subst hq
  refine calls_enter Try.func45 rfl _ Try.ntmps45 rfl ?_
  (repeat (first | refine go ?_ | refine goR ?_ | refine goS (fun yc hyc => ?_) | refine goL (fun _ _ => inferInstance) ?_ | with_reducible intro _ | refine goO (by first | omega | (simp only [List.length_cons, List.length_nil]; omega)) ?_ | fail))
  exact backN (σ0 := σ) Try.results45 (fun σ' _ _ => hK σ' inferInstance)⟩
instance clos_zero : Clos0 Try.prog 45 ptE (fun x => decide (x.tx = key0)) := ⟨fun σ x _ => inferInstance⟩
instance rule_faults2 [h : EncV σ txE v1 t] {bb : Bool} [q : BV (coinB t base) bb] : CallRule Try.prog 43 [v1, .bool base] σ (fun K _ => ∀ σ', Nx σ σ' .no → K (.bool bb) σ') := ⟨fun K E hK => by
  have hq := q.eq; subst hq
  have e1 : v1 = .agg (cats [#[.int .u32 (t.exp.toNat : Int)], #[.slice t.ins.A t.ins.n t.ins.c], #[.slice t.outs.A t.outs.n t.outs.c], kc t.anchor, #[.slice t.nulls.A t.nulls.n t.nulls.c], #[.slice t.notes.A t.notes.n t.notes.c], #[.int .i64 t.bal.toInt]]) := h.eq
  subst e1
  haveI : OkE σ txE t := ⟨h.ok⟩
  have hl1 := (inferInstance : SL σ t.ins.A t.ins.n t.ins.c ptE t.ins.l).len
  have hl2 := (inferInstance : SL σ t.outs.A t.outs.n t.outs.c otE t.outs.l).len
  have hl3 := (inferInstance : SL σ t.nulls.A t.nulls.n t.nulls.c keyE t.nulls.l).len
  have hl4 := (inferInstance : SL σ t.notes.A t.notes.n t.notes.c keyE t.notes.l).len
  cases base with
  | false =>
    have e : coinB t false = t.ins.l.any (fun x => decide (x.tx = key0)) := rfl
    rw [e] at hK
    refine calls_enter Try.func43 rfl _ Try.ntmps43 rfl ?_
    (repeat (first | refine go ?_ | refine goR ?_ | refine goS (fun yc hyc => ?_) | refine goL (fun _ _ => inferInstance) ?_ | with_reducible intro _ | refine goO (by first | omega | (simp only [List.length_cons, List.length_nil]; omega)) ?_ | fail))
    exact backN (σ0 := σ) Try.results43 (fun σ' _ _ => hK σ' inferInstance)
  | true =>
    cases hc : cbM t with
    | false =>
      haveI : BV (cbM t) false := ⟨hc⟩
      have e : coinB t true = true := by unfold coinB; simp [hc]
      rw [e] at hK
      refine calls_enter Try.func43 rfl _ Try.ntmps43 rfl ?_
      (repeat (first | refine go ?_ | refine goR ?_ | refine goS (fun yc hyc => ?_) | refine goL (fun _ _ => inferInstance) ?_ | with_reducible intro _ | refine goO (by first | omega | (simp only [List.length_cons, List.length_nil]; omega)) ?_ | fail))
      exact backN (σ0 := σ) Try.results43 (fun σ' _ _ => hK σ' inferInstance)
    | true =>
      haveI : BV (cbM t) true := ⟨hc⟩
      by_cases h3 : 0 < t.nulls.n
      · skip
        haveI : BV (decide (((t.nulls.n : Int) > 0))) true := ⟨decide_eq_true (by omega)⟩
        haveI : BV (decide (((0 : Int) < (t.nulls.n : Int)))) true := ⟨decide_eq_true (by omega)⟩
        have e : coinB t true = true := by unfold coinB; simp [hc, h3]
        rw [e] at hK
        refine calls_enter Try.func43 rfl _ Try.ntmps43 rfl ?_
        (repeat (first | refine go ?_ | refine goR ?_ | refine goS (fun yc hyc => ?_) | refine goL (fun _ _ => inferInstance) ?_ | with_reducible intro _ | refine goO (by first | omega | (simp only [List.length_cons, List.length_nil]; omega)) ?_ | fail))
        exact backN (σ0 := σ) Try.results43 (fun σ' _ _ => hK σ' inferInstance)
      · skip
        haveI : BV (decide (((t.nulls.n : Int) > 0))) false := ⟨decide_eq_false (by omega)⟩
        haveI : BV (decide (((0 : Int) < (t.nulls.n : Int)))) false := ⟨decide_eq_false (by omega)⟩
        have e : coinB t true = false := by unfold coinB; simp [hc]; omega
        rw [e] at hK
        refine calls_enter Try.func43 rfl _ Try.ntmps43 rfl ?_
        (repeat (first | refine go ?_ | refine goR ?_ | refine goS (fun yc hyc => ?_) | refine goL (fun _ _ => inferInstance) ?_ | with_reducible intro _ | refine goO (by first | omega | (simp only [List.length_cons, List.length_nil]; omega)) ?_ | fail))
        exact backN (σ0 := σ) Try.results43 (fun σ' _ _ => hK σ' inferInstance)⟩
instance rule_faults3 [h : EncV σ txE v1 t] [sm : SmallT t] {bb : Bool} [q : BV (repB t) bb] : CallRule Try.prog 46 [v1, .bool base] σ (fun K _ => ∀ σ', Nx σ σ' .no → K (.bool bb) σ') := ⟨fun K E hK => by
  have hq := q.eq; subst hq
  have e1 : v1 = .agg (cats [#[.int .u32 (t.exp.toNat : Int)], #[.slice t.ins.A t.ins.n t.ins.c], #[.slice t.outs.A t.outs.n t.outs.c], kc t.anchor, #[.slice t.nulls.A t.nulls.n t.nulls.c], #[.slice t.notes.A t.notes.n t.notes.c], #[.int .i64 t.bal.toInt]]) := h.eq
  subst e1
  haveI : OkE σ txE t := ⟨h.ok⟩
  have hl1 := (inferInstance : SL σ t.ins.A t.ins.n t.ins.c ptE t.ins.l).len
  have hl2 := (inferInstance : SL σ t.outs.A t.outs.n t.outs.c otE t.outs.l).len
  have hl3 := (inferInstance : SL σ t.nulls.A t.nulls.n t.nulls.c keyE t.nulls.l).len
  have hl4 := (inferInstance : SL σ t.notes.A t.notes.n t.notes.c keyE t.notes.l).len
  have hsm := sm.h
  cases hp : ptD t.ins.l with
  | false =>
    haveI : BV (ptD t.ins.l) false := ⟨hp⟩
    have e : repB t = true := by unfold repB; simp [hp]
    rw [e] at hK
    refine calls_enter Try.func46 rfl _ Try.ntmps46 rfl ?_
    (repeat (first | refine go ?_ | refine goR ?_ | refine goS (fun yc hyc => ?_) | refine goL (fun _ _ => inferInstance) ?_ | with_reducible intro _ | refine goO (by first | omega | (simp only [List.length_cons, List.length_nil]; omega)) ?_ | fail))
    exact backN (σ0 := σ) Try.results46 (fun σ' _ _ => hK σ' inferInstance)
  | true =>
    haveI : BV (ptD t.ins.l) true := ⟨hp⟩
    have e : repB t = !distK t.nulls.l := by unfold repB; simp [hp]
    rw [e] at hK
    refine calls_enter Try.func46 rfl _ Try.ntmps46 rfl ?_
    (repeat (first | refine go ?_ | refine goR ?_ | refine goS (fun yc hyc => ?_) | refine goL (fun _ _ => inferInstance) ?_ | with_reducible intro _ | refine goO (by first | omega | (simp only [List.length_cons, List.length_nil]; omega)) ?_ | fail))
    exact backN (σ0 := σ) Try.results46 (fun σ' _ _ => hK σ' inferInstance)⟩
instance rule_faults4 [h : EncV σ txE v1 t] [sm : SmallT t] {bb : Bool} [q : BV (moneyB t) bb] : CallRule Try.prog 48 [v1, .bool base] σ (fun K _ => ∀ σ', Nx σ σ' .no → K (.bool bb) σ') := ⟨fun K E hK => by
  have hq := q.eq; subst hq
  have e1 : v1 = .agg (cats [#[.int .u32 (t.exp.toNat : Int)], #[.slice t.ins.A t.ins.n t.ins.c], #[.slice t.outs.A t.outs.n t.outs.c], kc t.anchor, #[.slice t.nulls.A t.nulls.n t.nulls.c], #[.slice t.notes.A t.notes.n t.notes.c], #[.int .i64 t.bal.toInt]]) := h.eq
  subst e1
  haveI : OkE σ txE t := ⟨h.ok⟩
  have hl1 := (inferInstance : SL σ t.ins.A t.ins.n t.ins.c ptE t.ins.l).len
  have hl2 := (inferInstance : SL σ t.outs.A t.outs.n t.outs.c otE t.outs.l).len
  have hl3 := (inferInstance : SL σ t.nulls.A t.nulls.n t.nulls.c keyE t.nulls.l).len
  have hl4 := (inferInstance : SL σ t.notes.A t.notes.n t.notes.c keyE t.notes.l).len
  have hsm := sm.h
  have hvl : (valsM t).length = t.outs.n := by simp [valsM]; omega
  cases hs : sumM (valsM t) with
  | none =>
    haveI : Is (sumM (valsM t)) none := ⟨hs⟩
    by_cases h0 : 0 < t.bal.toInt
    · skip
      haveI : BV (decide (((t.bal.toInt : Int) > 0))) true := ⟨decide_eq_true (by omega)⟩
      haveI : BV (decide (((0 : Int) < (t.bal.toInt : Int)))) true := ⟨decide_eq_true (by omega)⟩
      have e : moneyB t = true := by unfold moneyB; simp [hs]; try omega
      rw [e] at hK
      refine calls_enter Try.func48 rfl _ Try.ntmps48 rfl ?_
      (repeat (first | refine go ?_ | refine goR ?_ | refine goS (fun yc hyc => ?_) | refine goL (fun _ _ => inferInstance) ?_ | with_reducible intro _ | refine goO (by first | omega | (simp only [List.length_cons, List.length_nil]; omega)) ?_ | fail))
      exact backN (σ0 := σ) Try.results48 (fun σ' _ _ => hK σ' inferInstance)
    · skip
      haveI : BV (decide (((t.bal.toInt : Int) > 0))) false := ⟨decide_eq_false (by omega)⟩
      haveI : BV (decide (((0 : Int) < (t.bal.toInt : Int)))) false := ⟨decide_eq_false (by omega)⟩
      by_cases h1 : t.bal.toInt < 0
      · skip
        haveI : BV (decide (((t.bal.toInt : Int) < 0))) true := ⟨decide_eq_true (by omega)⟩
        haveI : BV (decide (((0 : Int) > (t.bal.toInt : Int)))) true := ⟨decide_eq_true (by omega)⟩
        have e : moneyB t = true := by unfold moneyB; simp [hs]; try omega
        rw [e] at hK
        refine calls_enter Try.func48 rfl _ Try.ntmps48 rfl ?_
        (repeat (first | refine go ?_ | refine goR ?_ | refine goS (fun yc hyc => ?_) | refine goL (fun _ _ => inferInstance) ?_ | with_reducible intro _ | refine goO (by first | omega | (simp only [List.length_cons, List.length_nil]; omega)) ?_ | fail))
        exact backN (σ0 := σ) Try.results48 (fun σ' _ _ => hK σ' inferInstance)
      · skip
        haveI : BV (decide (((t.bal.toInt : Int) < 0))) false := ⟨decide_eq_false (by omega)⟩
        haveI : BV (decide (((0 : Int) > (t.bal.toInt : Int)))) false := ⟨decide_eq_false (by omega)⟩
        have e : moneyB t = true := by unfold moneyB; simp [hs]; try omega
        rw [e] at hK
        refine calls_enter Try.func48 rfl _ Try.ntmps48 rfl ?_
        (repeat (first | refine go ?_ | refine goR ?_ | refine goS (fun yc hyc => ?_) | refine goL (fun _ _ => inferInstance) ?_ | with_reducible intro _ | refine goO (by first | omega | (simp only [List.length_cons, List.length_nil]; omega)) ?_ | fail))
        exact backN (σ0 := σ) Try.results48 (fun σ' _ _ => hK σ' inferInstance)
  | some r =>
    haveI : Is (sumM (valsM t)) (some r) := ⟨hs⟩
    by_cases h0 : 0 < t.bal.toInt
    · skip
      haveI : BV (decide (((t.bal.toInt : Int) > 0))) true := ⟨decide_eq_true (by omega)⟩
      haveI : BV (decide (((0 : Int) < (t.bal.toInt : Int)))) true := ⟨decide_eq_true (by omega)⟩
      by_cases h2 : 2100000000000000 < t.bal.toInt
      · skip
        haveI : BV (decide (((t.bal.toInt : Int) > 2100000000000000))) true := ⟨decide_eq_true (by omega)⟩
        haveI : BV (decide (((2100000000000000 : Int) < (t.bal.toInt : Int)))) true := ⟨decide_eq_true (by omega)⟩
        have e : moneyB t = true := by unfold moneyB; simp [hs]; try omega
        rw [e] at hK
        refine calls_enter Try.func48 rfl _ Try.ntmps48 rfl ?_
        (repeat (first | refine go ?_ | refine goR ?_ | refine goS (fun yc hyc => ?_) | refine goL (fun _ _ => inferInstance) ?_ | with_reducible intro _ | refine goO (by first | omega | (simp only [List.length_cons, List.length_nil]; omega)) ?_ | fail))
        exact backN (σ0 := σ) Try.results48 (fun σ' _ _ => hK σ' inferInstance)
      · skip
        haveI : BV (decide (((t.bal.toInt : Int) > 2100000000000000))) false := ⟨decide_eq_false (by omega)⟩
        haveI : BV (decide (((2100000000000000 : Int) < (t.bal.toInt : Int)))) false := ⟨decide_eq_false (by omega)⟩
        by_cases h3 : t.nulls.n = 0
        · skip
          haveI : BV (decide (((t.nulls.n : Int) = 0))) true := ⟨decide_eq_true (by omega)⟩
          have e : moneyB t = true := by unfold moneyB; simp [hs]; try omega
          rw [e] at hK
          refine calls_enter Try.func48 rfl _ Try.ntmps48 rfl ?_
          (repeat (first | refine go ?_ | refine goR ?_ | refine goS (fun yc hyc => ?_) | refine goL (fun _ _ => inferInstance) ?_ | with_reducible intro _ | refine goO (by first | omega | (simp only [List.length_cons, List.length_nil]; omega)) ?_ | fail))
          exact backN (σ0 := σ) Try.results48 (fun σ' _ _ => hK σ' inferInstance)
        · skip
          haveI : BV (decide (((t.nulls.n : Int) = 0))) false := ⟨decide_eq_false (by omega)⟩
          have e : moneyB t = false := by unfold moneyB; simp [hs]; try omega
          rw [e] at hK
          refine calls_enter Try.func48 rfl _ Try.ntmps48 rfl ?_
          (repeat (first | refine go ?_ | refine goR ?_ | refine goS (fun yc hyc => ?_) | refine goL (fun _ _ => inferInstance) ?_ | with_reducible intro _ | refine goO (by first | omega | (simp only [List.length_cons, List.length_nil]; omega)) ?_ | fail))
          exact backN (σ0 := σ) Try.results48 (fun σ' _ _ => hK σ' inferInstance)
    · skip
      haveI : BV (decide (((t.bal.toInt : Int) > 0))) false := ⟨decide_eq_false (by omega)⟩
      haveI : BV (decide (((0 : Int) < (t.bal.toInt : Int)))) false := ⟨decide_eq_false (by omega)⟩
      by_cases h1 : t.bal.toInt < 0
      · skip
        haveI : BV (decide (((t.bal.toInt : Int) < 0))) true := ⟨decide_eq_true (by omega)⟩
        haveI : BV (decide (((0 : Int) > (t.bal.toInt : Int)))) true := ⟨decide_eq_true (by omega)⟩
        by_cases h2 : t.bal.toInt < -2100000000000000
        · skip
          haveI : BV (decide (((t.bal.toInt : Int) < -2100000000000000))) true := ⟨decide_eq_true (by omega)⟩
          haveI : BV (decide (((-2100000000000000 : Int) > (t.bal.toInt : Int)))) true := ⟨decide_eq_true (by omega)⟩
          have e : moneyB t = true := by unfold moneyB; simp [hs]; try omega
          rw [e] at hK
          refine calls_enter Try.func48 rfl _ Try.ntmps48 rfl ?_
          (repeat (first | refine go ?_ | refine goR ?_ | refine goS (fun yc hyc => ?_) | refine goL (fun _ _ => inferInstance) ?_ | with_reducible intro _ | refine goO (by first | omega | (simp only [List.length_cons, List.length_nil]; omega)) ?_ | fail))
          exact backN (σ0 := σ) Try.results48 (fun σ' _ _ => hK σ' inferInstance)
        · skip
          haveI : BV (decide (((t.bal.toInt : Int) < -2100000000000000))) false := ⟨decide_eq_false (by omega)⟩
          haveI : BV (decide (((-2100000000000000 : Int) > (t.bal.toInt : Int)))) false := ⟨decide_eq_false (by omega)⟩
          by_cases h3 : t.notes.n = 0
          · skip
            haveI : BV (decide (((t.notes.n : Int) = 0))) true := ⟨decide_eq_true (by omega)⟩
            have e : moneyB t = true := by unfold moneyB; simp [hs]; try omega
            rw [e] at hK
            refine calls_enter Try.func48 rfl _ Try.ntmps48 rfl ?_
            (repeat (first | refine go ?_ | refine goR ?_ | refine goS (fun yc hyc => ?_) | refine goL (fun _ _ => inferInstance) ?_ | with_reducible intro _ | refine goO (by first | omega | (simp only [List.length_cons, List.length_nil]; omega)) ?_ | fail))
            exact backN (σ0 := σ) Try.results48 (fun σ' _ _ => hK σ' inferInstance)
          · skip
            haveI : BV (decide (((t.notes.n : Int) = 0))) false := ⟨decide_eq_false (by omega)⟩
            have e : moneyB t = false := by unfold moneyB; simp [hs]; try omega
            rw [e] at hK
            refine calls_enter Try.func48 rfl _ Try.ntmps48 rfl ?_
            (repeat (first | refine go ?_ | refine goR ?_ | refine goS (fun yc hyc => ?_) | refine goL (fun _ _ => inferInstance) ?_ | with_reducible intro _ | refine goO (by first | omega | (simp only [List.length_cons, List.length_nil]; omega)) ?_ | fail))
            exact backN (σ0 := σ) Try.results48 (fun σ' _ _ => hK σ' inferInstance)
      · skip
        haveI : BV (decide (((t.bal.toInt : Int) < 0))) false := ⟨decide_eq_false (by omega)⟩
        haveI : BV (decide (((0 : Int) > (t.bal.toInt : Int)))) false := ⟨decide_eq_false (by omega)⟩
        have e : moneyB t = false := by unfold moneyB; simp [hs]; try omega
        rw [e] at hK
        refine calls_enter Try.func48 rfl _ Try.ntmps48 rfl ?_
        (repeat (first | refine go ?_ | refine goR ?_ | refine goS (fun yc hyc => ?_) | refine goL (fun _ _ => inferInstance) ?_ | with_reducible intro _ | refine goO (by first | omega | (simp only [List.length_cons, List.length_nil]; omega)) ?_ | fail))
        exact backN (σ0 := σ) Try.results48 (fun σ' _ _ => hK σ' inferInstance)⟩
end
end Go.Proofs.Ythdhnkgnbdociaa
