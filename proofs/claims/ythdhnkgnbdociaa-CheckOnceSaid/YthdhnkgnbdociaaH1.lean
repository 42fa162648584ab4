/- check.Values, Points, and the reference's, by contract. No condition. -/
import Derived.Test.YthdhnkgnbdociaaSlPt
import Derived.Test.YthdhnkgnbdociaaMq
import Derived.Test.YthdhnkgnbdociaaEi
import Derived.Test.YthdhnkgnbdociaaTb
set_option linter.all false
set_option maxHeartbeats 40000000
set_option synthInstance.maxHeartbeats 2000000
set_option synthInstance.maxSize 100000
namespace Go.Proofs.Ythdhnkgnbdociaa
open Go Go.RowKit
def ptD (xs : List Pt) : Bool := decide xs.Nodup
def zeroM (t : Tx) : Bool := t.ins.l.any fun p => decide (p.tx = key0)
def valsM (t : Tx) : List Int64 := t.outs.l.map (·.val)
theorem nodup_take {xs : List Pt} {i : Nat} (h : i < xs.length) : (xs.take (i + 1)).Nodup ↔ (xs.take i).Nodup ∧ (xs.take i).any (fun p => decide (p = xs[i]!)) = false := by
  rw [take_snoc h, List.nodup_append, List.any_eq_false]
  constructor
  · rintro ⟨h1, _, h2⟩
    exact ⟨h1, fun x hx => by have := h2 x hx _ (List.mem_singleton.2 rfl); simpa using this⟩
  · rintro ⟨h1, h2⟩
    exact ⟨h1, by simp, fun a ha b hb => by
      rw [List.mem_singleton] at hb; subst hb
      have := h2 a ha; simpa using this⟩
theorem any_take {α : Type} [Inhabited α] {xs : List α} {p : α → Bool} {i : Nat} (h : i < xs.length) : (xs.take (i + 1)).any p = ((xs.take i).any p || p xs[i]!) := by
  rw [take_snoc h, List.any_append]; simp
theorem nodup_not {xs : List Pt} {i : Nat} (h : ¬ (xs.take i).Nodup) : ¬ xs.Nodup := fun k => h (k.sublist (List.take_sublist _ _))
theorem putM_count {M : List (Pt × Int)} {xs : List Pt} {i : Nat} (h : i < xs.length) (hin : ∀ p, inM M p = (xs.take i).any (fun x => decide (x = p))) (hml : M.length ≤ i) (hmn : M.length = i ↔ (xs.take i).Nodup) (v : Int) :
    (putM M xs[i]! v).length ≤ i + 1 ∧ ((putM M xs[i]! v).length = i + 1 ↔ (xs.take (i + 1)).Nodup) := by
  rw [nodup_take h, ← hin, ← hmn]
  cases hc : inM M xs[i]! with
  | true =>
    have : putM M xs[i]! v = setM M xs[i]! v := by unfold putM; rw [if_pos hc]
    rw [this, setM_len]
    refine ⟨by omega, ⟨fun e => by omega, fun e => by cases e.2⟩⟩
  | false =>
    have : putM M xs[i]! v = M ++ [(xs[i]!, v)] := by unfold putM; rw [hc]; rfl
    rw [this]
    simp only [List.length_append, List.length_cons, List.length_nil, and_true]
    omega
section
variable {σ : St} {A B : Option Addr} {n c m d b : Nat} {xs ys : List Pt} {t : Tx} {v1 v2 : Value}
instance rule_Values [h : EncV σ txE v1 t] : CallRule Try.prog 12 [v1] σ (fun K _ => (t.outs.n ≤ 100000000000) ∧ ∀ σ' A', Nx σ σ' .no → RowNew σ none A' → SL σ' A' t.outs.n t.outs.n i64E (valsM t) → K (.slice A' t.outs.n t.outs.n) σ') := ⟨fun K E hK => by
  obtain ⟨hn, hK⟩ := hK
  have e1 : v1 = .agg (cats [#[.int .u32 (t.exp.toNat : Int)], #[.slice t.ins.A t.ins.n t.ins.c], #[.slice t.outs.A t.outs.n t.outs.c], kc t.anchor, #[.slice t.nulls.A t.nulls.n t.nulls.c], #[.slice t.notes.A t.notes.n t.notes.c], #[.int .i64 t.bal.toInt]]) := h.eq
  subst e1
  haveI : OkE σ txE t := ⟨h.ok⟩
  have hl := (inferInstance : SL σ t.outs.A t.outs.n t.outs.c otE t.outs.l).len
  refine calls_enter Try.func12 rfl _ Try.ntmps12 rfl ?_
  (repeat (first | refine go ?_ | refine goR ?_ | refine goS (fun yc hyc => ?_) | refine goL (fun _ _ => inferInstance) ?_ | with_reducible intro _ | refine goO (by first | omega | (simp only [List.length_cons, List.length_nil]; omega)) ?_ | fail))
  rename Option Addr => A1
  refine WC.loopW 16769072 (.row A1 2) (fun (i : Nat) f s => At f 13 (.int .i64 (i : Int)) ∧ i ≤ t.outs.n ∧ ∃ zs, Row s A1 t.outs.n t.outs.n 2 i64E zs ∧ ∀ k, k < i → zs[k]! = t.outs.l[k]!.val) (fun i => t.outs.n - i) 0
    ⟨At.to (.int .i64 0) rfl, Nat.zero_le _, _, inferInstance, by omega⟩ ?_
  rintro i f s ha hs ⟨a8, hi, zs, hr, hx⟩
  have hzl := hr.len
  by_cases hlt : i < t.outs.n
  · haveI : BV (decide ((i : Int) < (t.outs.n : Int))) true := ⟨by simpa using hlt⟩
    haveI : IdxLt i t.outs.n := ⟨hlt⟩
    haveI : Fits .i64 ((i : Int) + 1) := Fits.i64 (by omega) (by omega)
    (repeat (first | refine go ?_ | refine goR ?_ | refine goS (fun yc hyc => ?_) | refine goL (fun _ _ => inferInstance) ?_ | with_reducible intro _ | refine goO (by first | omega | (simp only [List.length_cons, List.length_nil]; omega)) ?_ | fail))
    refine loop_w (i + 1) ⟨At.to (.int .i64 ((i : Int) + 1)) (by simp), hlt, _, inferInstance, fun k hk => ?_⟩ (by omega)
    rw [getElem!_pos _ k (by simp; omega), List.getElem_set]
    by_cases e : i = k
    · rw [if_pos e, ← e]
    · rw [if_neg e, ← hx k (by omega), getElem!_pos zs k (by omega)]
  · haveI : BV (decide ((i : Int) < (t.outs.n : Int))) false := ⟨by simpa using hlt⟩
    have e : zs = valsM t := by
      apply List.ext_getElem
      · simp [valsM]; omega
      · intro k h1 h2
        have := hx k (by omega)
        rw [getElem!_pos zs k h1, getElem!_pos t.outs.l k (by omega)] at this
        rw [this]; simp [valsM]
    subst e
    (repeat (first | refine go ?_ | refine goR ?_ | refine goS (fun yc hyc => ?_) | refine goL (fun _ _ => inferInstance) ?_ | with_reducible intro _ | refine goO (by first | omega | (simp only [List.length_cons, List.length_nil]; omega)) ?_ | fail))
    exact backN (σ0 := σ) Try.results12 (fun σ' _ _ => hK σ' _ inferInstance (Gr.rn inferInstance) inferInstance)⟩
instance rule_ref_Values [h : EncV σ txE v1 t] : CallRule Try.prog 13 [v1] σ (fun K _ => (t.outs.n ≤ 100000000000) ∧ ∀ σ' A' c', Nx σ σ' .no → RowNew σ none A' → SL σ' A' t.outs.n c' i64E (valsM t) → K (.slice A' t.outs.n c') σ') := ⟨fun K E hK => by
  obtain ⟨hn, hK⟩ := hK
  have e1 : v1 = .agg (cats [#[.int .u32 (t.exp.toNat : Int)], #[.slice t.ins.A t.ins.n t.ins.c], #[.slice t.outs.A t.outs.n t.outs.c], kc t.anchor, #[.slice t.nulls.A t.nulls.n t.nulls.c], #[.slice t.notes.A t.notes.n t.notes.c], #[.int .i64 t.bal.toInt]]) := h.eq
  subst e1
  haveI : OkE σ txE t := ⟨h.ok⟩
  have hl := (inferInstance : SL σ t.outs.A t.outs.n t.outs.c otE t.outs.l).len
  have hvl : (valsM t).length = t.outs.n := by simp [valsM]; omega
  refine calls_enter Try.func13 rfl _ Try.ntmps13 rfl ?_
  (repeat (first | refine go ?_ | refine goR ?_ | refine goS (fun yc hyc => ?_) | refine goL (fun _ _ => inferInstance) ?_ | with_reducible intro _ | refine goO (by first | omega | (simp only [List.length_cons, List.length_nil]; omega)) ?_ | fail))
  rename Option Addr => A0
  rename St => s0
  refine WC.loopW 4194264 (.row A0 2) (fun (i : Nat) f s => At f 4 (.int .i64 (i : Int)) ∧ i ≤ t.outs.n ∧ ∃ A1 c1, At f 3 (.slice A1 i c1) ∧ Row s A1 i c1 2 i64E ((valsM t).take i) ∧ RowNew s0 A0 A1) (fun i => t.outs.n - i) 0
    ⟨At.to (.int .i64 0) rfl, Nat.zero_le _, _, _, inferInstance, by rw [List.take_zero]; infer_instance, Gr.rn inferInstance⟩ ?_
  rintro i f s ha hs ⟨a8, hi, A1, c1, a3, hr, hrn⟩
  by_cases hlt : i < t.outs.n
  · haveI : BV (decide ((i : Int) < (t.outs.n : Int))) true := ⟨by simpa using hlt⟩
    haveI : IdxLt i t.outs.n := ⟨hlt⟩
    haveI : Fits .i64 ((i : Int) + 1) := Fits.i64 (by omega) (by omega)
    have hst : (valsM t).take (i + 1) = (valsM t).take i ++ [t.outs.l[i]!.val] := by
      rw [take_snoc (by omega), getElem!_pos _ i (by omega), getElem!_pos t.outs.l i (by omega)]
      simp [valsM]
    (repeat (first | refine go ?_ | refine goR ?_ | refine goS (fun yc hyc => ?_) | refine goL (fun _ _ => inferInstance) ?_ | with_reducible intro _ | refine goO (by first | omega | (simp only [List.length_cons, List.length_nil]; omega)) ?_ | fail))
    refine loop_w (i + 1) ⟨At.to (.int .i64 ((i : Int) + 1)) (by simp), hlt, _, _, inferInstance, by rw [hst]; infer_instance, Gr.rn inferInstance⟩ (by omega)
  · haveI : BV (decide ((i : Int) < (t.outs.n : Int))) false := ⟨by simpa using hlt⟩
    have e : i = t.outs.n := by omega
    subst e
    rw [take_all (by omega)] at hr
    (repeat (first | refine go ?_ | refine goR ?_ | refine goS (fun yc hyc => ?_) | refine goL (fun _ _ => inferInstance) ?_ | with_reducible intro _ | refine goO (by first | omega | (simp only [List.length_cons, List.length_nil]; omega)) ?_ | fail))
    exact backN (σ0 := σ) Try.results13 (fun σ' _ _ => hK σ' _ _ inferInstance (Gr.rn inferInstance) inferInstance)⟩
instance rule_ref_zero [h : EncV σ txE v1 t] {bb : Bool} [q : BV (zeroM t) bb] : CallRule Try.prog 23 [v1] σ (fun K _ => ∀ σ', Nx σ σ' .no → K (.bool bb) σ') := ⟨fun K E hK => by
  have hq := q.eq; subst hq
  have e1 : v1 = .agg (cats [#[.int .u32 (t.exp.toNat : Int)], #[.slice t.ins.A t.ins.n t.ins.c], #[.slice t.outs.A t.outs.n t.outs.c], kc t.anchor, #[.slice t.nulls.A t.nulls.n t.nulls.c], #[.slice t.notes.A t.notes.n t.notes.c], #[.int .i64 t.bal.toInt]]) := h.eq
  subst e1
  haveI : OkE σ txE t := ⟨h.ok⟩
  have hs0 := (inferInstance : SL σ t.ins.A t.ins.n t.ins.c ptE t.ins.l)
  have hl := hs0.len
  have hmx := hs0.max
  refine calls_enter Try.func23 rfl _ Try.ntmps23 rfl ?_
  (repeat (first | refine go ?_ | refine goR ?_ | refine goS (fun yc hyc => ?_) | refine goL (fun _ _ => inferInstance) ?_ | with_reducible intro _ | refine goO (by first | omega | (simp only [List.length_cons, List.length_nil]; omega)) ?_ | fail))
  refine WC.loopW 524284 .no (fun (i : Nat) f s => At f 3 (.int .i64 (i : Int)) ∧ i ≤ t.ins.n ∧ (t.ins.l.take i).any (fun p => decide (p.tx = key0)) = false) (fun i => t.ins.n - i) 0
    ⟨At.to (.int .i64 0) rfl, Nat.zero_le _, rfl⟩ ?_
  rintro i f s ha hs ⟨a8, hi, hz⟩
  by_cases hlt : i < t.ins.n
  · haveI : BV (decide ((i : Int) < (t.ins.n : Int))) true := ⟨by simpa using hlt⟩
    haveI : IdxLt i t.ins.n := ⟨hlt⟩
    haveI : Fits .i64 ((i : Int) + 1) := Fits.i64 (by omega) (by omega)
    have hst := any_take (p := fun p : Pt => decide (p.tx = key0)) (xs := t.ins.l) (i := i) (by omega)
    by_cases hk : t.ins.l[i]!.tx = key0
    · haveI : BV (decide (t.ins.l[i]!.tx = key0)) true := ⟨by simpa using hk⟩
      have e : zeroM t = true := by
        unfold zeroM
        rw [List.any_eq_true]
        exact ⟨t.ins.l[i]!, by rw [getElem!_pos _ i (by omega)]; exact List.getElem_mem _, by simpa using hk⟩
      rw [e] at hK
      (repeat (first | refine go ?_ | refine goR ?_ | refine goS (fun yc hyc => ?_) | refine goL (fun _ _ => inferInstance) ?_ | with_reducible intro _ | refine goO (by first | omega | (simp only [List.length_cons, List.length_nil]; omega)) ?_ | fail))
      exact backN (σ0 := σ) Try.results23 (fun σ' _ _ => hK σ' inferInstance)
    · haveI : BV (decide (t.ins.l[i]!.tx = key0)) false := ⟨by simpa using hk⟩
      (repeat (first | refine go ?_ | refine goR ?_ | refine goS (fun yc hyc => ?_) | refine goL (fun _ _ => inferInstance) ?_ | with_reducible intro _ | refine goO (by first | omega | (simp only [List.length_cons, List.length_nil]; omega)) ?_ | fail))
      exact loop_w (i + 1) ⟨At.to (.int .i64 ((i : Int) + 1)) (by simp), hlt, by rw [hst, hz]; simpa using hk⟩ (by omega)
  · haveI : BV (decide ((i : Int) < (t.ins.n : Int))) false := ⟨by simpa using hlt⟩
    rw [take_all (by omega)] at hz
    have e : zeroM t = false := hz
    rw [e] at hK
    (repeat (first | refine go ?_ | refine goR ?_ | refine goS (fun yc hyc => ?_) | refine goL (fun _ _ => inferInstance) ?_ | with_reducible intro _ | refine goO (by first | omega | (simp only [List.length_cons, List.length_nil]; omega)) ?_ | fail))
    exact backN (σ0 := σ) Try.results23 (fun σ' _ _ => hK σ' inferInstance)⟩
instance rule_ref_Points [hq : SLq σ A n c ptE xs] {bb : Bool} [q : BV (ptD xs) bb] : CallRule Try.prog 18 [.slice A n c] σ (fun K _ => ∀ σ', Nx σ σ' .no → K (.bool bb) σ') := ⟨fun K E hK => by
  have hqq := q.eq; subst hqq
  haveI h := hq.sl
  have hl := h.len
  have hmx := h.max
  refine calls_enter Try.func18 rfl _ Try.ntmps18 rfl ?_
  (repeat (first | refine go ?_ | refine goR ?_ | refine goS (fun yc hyc => ?_) | refine goL (fun _ _ => inferInstance) ?_ | with_reducible intro _ | refine goO (by first | omega | (simp only [List.length_cons, List.length_nil]; omega)) ?_ | fail))
  refine WC.loopW 33554428 .no (fun (i : Nat) f s => At f 3 (.int .i64 (i : Int)) ∧ i ≤ n ∧ (xs.take i).Nodup) (fun i => n - i) 0
    ⟨At.to (.int .i64 0) rfl, Nat.zero_le _, by simp⟩ ?_
  rintro i f s ha hs ⟨a8, hi, hz⟩
  by_cases hlt : i < n
  · haveI : BV (decide ((i : Int) < (n : Int))) true := ⟨by simpa using hlt⟩
    haveI : IdxLt i n := ⟨hlt⟩
    haveI : Fits .i64 ((i : Int) + 1) := Fits.i64 (by omega) (by omega)
    have hnd := nodup_take (xs := xs) (i := i) (by omega)
    (repeat (first | refine go ?_ | refine goR ?_ | refine goS (fun yc hyc => ?_) | refine goL (fun _ _ => inferInstance) ?_ | with_reducible intro _ | refine goO (by first | omega | (simp only [List.length_cons, List.length_nil]; omega)) ?_ | fail))
    refine WC.loopW 33552404 .no (fun (j : Nat) f s => At f 4 (.int .i64 (j : Int)) ∧ j ≤ i ∧ (xs.take j).any (fun p => decide (p = xs[i]!)) = false) (fun j => i - j) 0
      ⟨At.to (.int .i64 0) rfl, Nat.zero_le _, rfl⟩ ?_
    rintro j f2 s2 ha2 hs2 ⟨a4, hj, hz2⟩
    by_cases hlt2 : j < i
    · haveI : BV (decide ((j : Int) < (i : Int))) true := ⟨by simpa using hlt2⟩
      haveI : IdxLt j n := ⟨by omega⟩
      haveI : Fits .i64 ((j : Int) + 1) := Fits.i64 (by omega) (by omega)
      have hst := any_take (p := fun p : Pt => decide (p = xs[i]!)) (xs := xs) (i := j) (by omega)
      by_cases hk : xs[i]! = xs[j]!
      · haveI : BV (decide (xs[i]! = xs[j]!)) true := ⟨by simpa using hk⟩
        have hno : ¬ (xs.take (i + 1)).Nodup := fun k => by
          have := (hnd.1 k).2
          rw [List.any_eq_false] at this
          have hm : xs[j]! ∈ xs.take i := by rw [getElem!_pos _ j (by omega)]; rw [List.mem_take_iff_getElem]; exact ⟨j, by omega, rfl⟩
          have := this _ hm
          simp [hk] at this
        have e : ptD xs = false := by unfold ptD; simpa using nodup_not hno
        rw [e] at hK
        (repeat (first | refine go ?_ | refine goR ?_ | refine goS (fun yc hyc => ?_) | refine goL (fun _ _ => inferInstance) ?_ | with_reducible intro _ | refine goO (by first | omega | (simp only [List.length_cons, List.length_nil]; omega)) ?_ | fail))
        refine WC.draw [] (.p 0 (.p 1 (.l 2 (.l 3 (.p 4 (.p 5 (.l 6 (.l 7 (.p 8 .nil))))))))) mixed (by decide +kernel) ?_
        (repeat' (first | refine go ?_ | refine goR ?_ | refine goS (fun yc hyc => ?_) | refine goL (fun _ _ => inferInstance) ?_ | refine goF ?_ ?_ | with_reducible intro _ | refine goO (by first | omega | (simp only [List.length_cons, List.length_nil]; omega)) ?_ | fail))
        all_goals exact backN (σ0 := σ) Try.results18 (fun σ' _ _ => hK σ' inferInstance)
      · haveI : BV (decide (xs[i]! = xs[j]!)) false := ⟨by simpa using hk⟩
        (repeat (first | refine go ?_ | refine goR ?_ | refine goS (fun yc hyc => ?_) | refine goL (fun _ _ => inferInstance) ?_ | with_reducible intro _ | refine goO (by first | omega | (simp only [List.length_cons, List.length_nil]; omega)) ?_ | fail))
        refine WC.draw [] (.p 0 (.p 1 (.l 2 (.l 3 (.p 4 (.p 5 (.l 6 (.l 7 (.p 8 .nil))))))))) mixed (by decide +kernel) ?_
        (repeat' (first | refine go ?_ | refine goR ?_ | refine goS (fun yc hyc => ?_) | refine goL (fun _ _ => inferInstance) ?_ | refine goF ?_ ?_ | with_reducible intro _ | refine goO (by first | omega | (simp only [List.length_cons, List.length_nil]; omega)) ?_ | fail))
        all_goals exact loop_w (j + 1) ⟨At.to (.int .i64 ((j : Int) + 1)) (by simp), hlt2, by rw [hst, hz2]; simpa using Ne.symm hk⟩ (by omega)
    · haveI : BV (decide ((j : Int) < (i : Int))) false := ⟨by simpa using hlt2⟩
      have e : j = i := by omega
      subst e
      (repeat (first | refine go ?_ | refine goR ?_ | refine goS (fun yc hyc => ?_) | refine goL (fun _ _ => inferInstance) ?_ | with_reducible intro _ | refine goO (by first | omega | (simp only [List.length_cons, List.length_nil]; omega)) ?_ | fail))
      exact loop_w (j + 1) ⟨At.to (.int .i64 ((j : Int) + 1)) (by simp), hlt, hnd.2 ⟨hz, hz2⟩⟩ (by omega)
  · haveI : BV (decide ((i : Int) < (n : Int))) false := ⟨by simpa using hlt⟩
    rw [take_all (by omega)] at hz
    have e : ptD xs = true := by unfold ptD; simpa using hz
    rw [e] at hK
    (repeat (first | refine go ?_ | refine goR ?_ | refine goS (fun yc hyc => ?_) | refine goL (fun _ _ => inferInstance) ?_ | with_reducible intro _ | refine goO (by first | omega | (simp only [List.length_cons, List.length_nil]; omega)) ?_ | fail))
    exact backN (σ0 := σ) Try.results18 (fun σ' _ _ => hK σ' inferInstance)⟩
instance rule_Points [hq : SLq σ A n c ptE xs] {bb : Bool} [q : BV (ptD xs) bb] : CallRule Try.prog 17 [.slice A n c] σ (fun K _ => ∀ σ', Nx σ σ' .no → K (.bool bb) σ') := ⟨fun K E hK => by
  have hqq := q.eq; subst hqq
  haveI h := hq.sl
  have hl := h.len
  have hmx := h.max
  refine calls_enter Try.func17 rfl _ Try.ntmps17 rfl ?_
  (repeat (first | refine go ?_ | refine goR ?_ | refine goS (fun yc hyc => ?_) | refine goL (fun _ _ => inferInstance) ?_ | with_reducible intro _ | refine goO (by first | omega | (simp only [List.length_cons, List.length_nil]; omega)) ?_ | fail))
  rename Nat => r
  refine WC.loopW 4192288 (.map r) (fun (i : Nat) f s => At f 11 (.int .i64 (i : Int)) ∧ i ≤ n ∧ ∃ M : List (Pt × Int), MapAt s r 35 3 ptE intE M ∧ (∀ p, inM M p = (xs.take i).any (fun x => decide (x = p))) ∧ (∀ p, 0 ≤ lookM M p 0 ∧ lookM M p 0 ≤ (i : Int)) ∧ M.length ≤ i ∧ (M.length = i ↔ (xs.take i).Nodup)) (fun i => n - i) 0
    ⟨At.to (.int .i64 0) rfl, Nat.zero_le _, [], inferInstance, fun p => rfl, fun p => by simp [lookM], by simp, by simp⟩ ?_
  rintro i f s ha hs ⟨a8, hi, M, hM, hin, hlk, hml, hmn⟩
  by_cases hlt : i < n
  · haveI : BV (decide ((i : Int) < (n : Int))) true := ⟨by simpa using hlt⟩
    haveI : IdxLt i n := ⟨hlt⟩
    haveI : Fits .i64 ((i : Int) + 1) := Fits.i64 (by omega) (by omega)
    have hx := hlk xs[i]!
    haveI : Is (lookM (entM M xs[i]! 0) xs[i]! 0) (lookM M xs[i]! 0) := ⟨lookM_entM _ _ _⟩
    haveI : Fits .i64 (lookM M xs[i]! 0 + 1) := Fits.i64 (by omega) (by omega)
    (repeat (first | refine go ?_ | refine goR ?_ | refine goS (fun yc hyc => ?_) | refine goL (fun _ _ => inferInstance) ?_ | with_reducible intro _ | refine goO (by first | omega | (simp only [List.length_cons, List.length_nil]; omega)) ?_ | fail))
    refine WC.draw [4, 6] (.p 0 (.l 1 (.f 2 (.p 3 (.h 4 (.p 5 (.h 6 .nil)))) 4 (.p 5 (.h 2 (.p 3 (.h 6 .nil))))))) mixed (by decide +kernel) ?_
    (repeat' (first | refine go ?_ | refine goR ?_ | refine goS (fun yc hyc => ?_) | refine goL (fun _ _ => inferInstance) ?_ | refine goF ?_ ?_ | with_reducible intro _ | refine goO (by first | omega | (simp only [List.length_cons, List.length_nil]; omega)) ?_ | fail))
    all_goals
      refine loop_w (i + 1) ⟨At.to (.int .i64 ((i : Int) + 1)) (by simp), hlt, putM M xs[i]! (lookM M xs[i]! 0 + 1), inferInstance, fun p => ?_, fun p => ?_, ?_, ?_⟩ (by omega)
      · rw [inM_putM, hin, any_take (by omega), Bool.or_comm]
      · rw [lookM_putM]; have := hlk p; split <;> omega
      · exact (putM_count (by omega) hin hml hmn _).1
      · exact (putM_count (by omega) hin hml hmn _).2
  · haveI : BV (decide ((i : Int) < (n : Int))) false := ⟨by simpa using hlt⟩
    have e : i = n := by omega
    subst e
    rw [take_all (by omega)] at hmn
    haveI : BV (decide ((M.length : Int) = (i : Int))) (ptD xs) := ⟨by
      unfold ptD
      rw [decide_eq_decide, ← hmn]; omega⟩
    (repeat (first | refine go ?_ | refine goR ?_ | refine goS (fun yc hyc => ?_) | refine goL (fun _ _ => inferInstance) ?_ | with_reducible intro _ | refine goO (by first | omega | (simp only [List.length_cons, List.length_nil]; omega)) ?_ | fail))
    exact backN (σ0 := σ) Try.results17 (fun σ' _ _ => hK σ' inferInstance)⟩
end
end Go.Proofs.Ythdhnkgnbdociaa
