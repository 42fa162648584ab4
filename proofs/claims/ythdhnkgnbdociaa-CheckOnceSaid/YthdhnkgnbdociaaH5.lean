/- The laws CheckFights, CheckSecret, by contract. No condition. -/
import Derived.Test.YthdhnkgnbdociaaH4
set_option linter.all false
set_option maxHeartbeats 40000000
set_option synthInstance.maxHeartbeats 2000000
set_option synthInstance.maxSize 100000
namespace Go.Proofs.Ythdhnkgnbdociaa
open Go Go.RowKit
theorem fightM_comm (t u : Tx) : fightM t u = fightM u t := by
  unfold fightM
  rw [meetK_comm]
  congr 1
  rw [Bool.eq_iff_iff, List.any_eq_true, List.any_eq_true]
  constructor
  · rintro ⟨p, hp, h⟩
    obtain ⟨x, hx, e⟩ := List.any_eq_true.1 h
    exact ⟨x, hx, List.any_eq_true.2 ⟨p, hp, by simpa using (by simpa using e : x = p).symm⟩⟩
  · rintro ⟨p, hp, h⟩
    obtain ⟨x, hx, e⟩ := List.any_eq_true.1 h
    exact ⟨x, hx, List.any_eq_true.2 ⟨p, hp, by simpa using (by simpa using e : x = p).symm⟩⟩
theorem fightM_self (t : Tx) (h1 : t.ins.l.length = t.ins.n) (h2 : t.nulls.l.length = t.nulls.n) : fightM t t = decide (0 < t.ins.n + t.nulls.n) := by
  rw [Bool.eq_iff_iff, decide_eq_true_eq]
  unfold fightM
  rw [Bool.or_eq_true, List.any_eq_true, meetK_iff]
  constructor
  · rintro (⟨p, hp, _⟩ | ⟨k, hk, _⟩)
    · have := List.length_pos_of_mem hp; omega
    · have := List.length_pos_of_mem hk; omega
  · intro h
    by_cases h0 : 0 < t.ins.n
    · refine .inl ⟨t.ins.l[0]!, by rw [getElem!_pos _ 0 (by omega)]; exact List.getElem_mem _, ?_⟩
      rw [List.any_eq_true]
      exact ⟨t.ins.l[0]!, by rw [getElem!_pos _ 0 (by omega)]; exact List.getElem_mem _, by simp⟩
    · have hm : t.nulls.l[0]! ∈ t.nulls.l := by rw [getElem!_pos _ 0 (by omega)]; exact List.getElem_mem _
      exact .inr ⟨_, hm, hm⟩
theorem chk_ok {t : Tx} {base : Bool} (h : chkM t base = 0) : encE t = 0 ∧ emptyB t = false ∧ coinB t base = false ∧ repB t = false ∧ moneyB t = false := by
  unfold chkM at h
  split at h
  · rename_i he
    refine ⟨he, ?_⟩
    unfold errsM at h; split at h; · cases h
    rename_i h1
    unfold errsM at h; split at h; · cases h
    rename_i h2
    unfold errsM at h; split at h; · cases h
    rename_i h3
    unfold errsM at h; split at h; · cases h
    rename_i h4
    simp only [Bool.not_eq_true] at h1 h2 h3 h4
    exact ⟨h1, h2, h3, h4⟩
  · rename_i he; exact absurd h he
theorem encE_le (t : Tx) : 0 ≤ encE t := by unfold encE; split <;> (try split) <;> omega
section
variable {σ : St} {v1 v2 : Value} {t u : Tx} {base : Bool} {k : Key}
instance rule_CheckFights [ok : OkE σ txE t] [ok2 : OkE σ txE u] : CallRule Try.prog 8 [.agg (cats [#[.int .u32 (t.exp.toNat : Int)], #[.slice t.ins.A t.ins.n t.ins.c], #[.slice t.outs.A t.outs.n t.outs.c], kc t.anchor, #[.slice t.nulls.A t.nulls.n t.nulls.c], #[.slice t.notes.A t.notes.n t.notes.c], #[.int .i64 t.bal.toInt]]), .agg (cats [#[.int .u32 (u.exp.toNat : Int)], #[.slice u.ins.A u.ins.n u.ins.c], #[.slice u.outs.A u.outs.n u.outs.c], kc u.anchor, #[.slice u.nulls.A u.nulls.n u.nulls.c], #[.slice u.notes.A u.notes.n u.notes.c], #[.int .i64 u.bal.toInt]])] σ (fun K _ => ∀ σ', Nx σ σ' .no → K (.bool true) σ') := ⟨fun K E hK => by
  have hl1 := (inferInstance : SL σ t.ins.A t.ins.n t.ins.c ptE t.ins.l).len
  have hl3 := (inferInstance : SL σ t.nulls.A t.nulls.n t.nulls.c keyE t.nulls.l).len
  cases h1 : heavyT t with
  | true =>
    haveI : BV (heavyT t) true := ⟨h1⟩
    refine calls_enter Try.func8 rfl _ Try.ntmps8 rfl ?_
    (repeat (first | refine go ?_ | refine goR ?_ | refine goS (fun yc hyc => ?_) | refine goL (fun _ _ => inferInstance) ?_ | with_reducible intro _ | refine goO (by first | omega | (simp only [List.length_cons, List.length_nil]; omega)) ?_ | fail))
    exact backN (σ0 := σ) Try.results8 (fun σ' _ _ => hK σ' inferInstance)
  | false =>
    haveI : BV (heavyT t) false := ⟨h1⟩
    have f1 := heavyT_f h1
    cases h2 : heavyT u with
    | true =>
      haveI : BV (heavyT u) true := ⟨h2⟩
      refine calls_enter Try.func8 rfl _ Try.ntmps8 rfl ?_
      (repeat (first | refine go ?_ | refine goR ?_ | refine goS (fun yc hyc => ?_) | refine goL (fun _ _ => inferInstance) ?_ | with_reducible intro _ | refine goO (by first | omega | (simp only [List.length_cons, List.length_nil]; omega)) ?_ | fail))
      exact backN (σ0 := σ) Try.results8 (fun σ' _ _ => hK σ' inferInstance)
    | false =>
      haveI : BV (heavyT u) false := ⟨h2⟩
      have f2 := heavyT_f h2
      haveI : BV (fightM u t) (fightM t u) := ⟨fightM_comm u t⟩
      haveI : Fits .i64 ((t.ins.n : Int) + (t.nulls.n : Int)) := Fits.i64 (by omega) (by omega)
      have hself := fightM_self t hl1 hl3
      by_cases h0 : 0 < t.ins.n + t.nulls.n
      · haveI : BV (fightM t t) true := ⟨by rw [hself]; simpa using h0⟩
        haveI : BV (decide (((t.ins.n : Int) + (t.nulls.n : Int)) > 0)) true := ⟨decide_eq_true (by omega)⟩
        by_cases hc : chkM t false = 0
        · haveI : Is (chkM t false) 0 := ⟨hc⟩
          refine calls_enter Try.func8 rfl _ Try.ntmps8 rfl ?_
          (repeat (first | refine go ?_ | refine goR ?_ | refine goS (fun yc hyc => ?_) | refine goL (fun _ _ => inferInstance) ?_ | with_reducible intro _ | refine goO (by first | omega | (simp only [List.length_cons, List.length_nil]; omega)) ?_ | fail))
          refine WC.draw [] (.l 0 (.l 1 (.l 3 (.l 4 (.h 2 (.h 5 (.p 6 (.p 7 (.l 8 (.l 9 (.l 11 (.l 12 (.l 13 (.l 14 (.l 15 (.l 16 (.p 17 (.p 18 (.h 10 (.p 19 (.p 20 (.p 21 (.l 22 (.h 23 (.p 24 (.p 25 (.l 26 (.l 27 (.h 28 (.p 29 (.p 30 (.p 31 .nil)))))))))))))))))))))))))))))))) mixed (by decide +kernel) ?_
          (repeat' (first | refine go ?_ | refine goR ?_ | refine goS (fun yc hyc => ?_) | refine goL (fun _ _ => inferInstance) ?_ | refine goF ?_ ?_ | with_reducible intro _ | refine goO (by first | omega | (simp only [List.length_cons, List.length_nil]; omega)) ?_ | fail))
          all_goals exact backN (σ0 := σ) Try.results8 (fun σ' _ _ => hK σ' inferInstance)
        · haveI : BV (decide (chkM t false = 0)) false := ⟨decide_eq_false hc⟩
          refine calls_enter Try.func8 rfl _ Try.ntmps8 rfl ?_
          (repeat (first | refine go ?_ | refine goR ?_ | refine goS (fun yc hyc => ?_) | refine goL (fun _ _ => inferInstance) ?_ | with_reducible intro _ | refine goO (by first | omega | (simp only [List.length_cons, List.length_nil]; omega)) ?_ | fail))
          refine WC.draw [] (.l 0 (.l 1 (.l 3 (.l 4 (.h 2 (.h 5 (.p 6 (.p 7 (.l 8 (.l 9 (.l 11 (.l 12 (.l 13 (.l 14 (.l 15 (.l 16 (.p 17 (.p 18 (.h 10 (.p 19 (.p 20 (.p 21 (.l 22 (.h 23 (.p 24 (.p 25 (.l 26 (.l 27 (.h 28 (.p 29 (.p 30 (.p 31 .nil)))))))))))))))))))))))))))))))) mixed (by decide +kernel) ?_
          (repeat' (first | refine go ?_ | refine goR ?_ | refine goS (fun yc hyc => ?_) | refine goL (fun _ _ => inferInstance) ?_ | refine goF ?_ ?_ | with_reducible intro _ | refine goO (by first | omega | (simp only [List.length_cons, List.length_nil]; omega)) ?_ | fail))
          all_goals exact backN (σ0 := σ) Try.results8 (fun σ' _ _ => hK σ' inferInstance)
      · haveI : BV (fightM t t) false := ⟨by rw [hself]; simpa using h0⟩
        haveI : BV (decide (((t.ins.n : Int) + (t.nulls.n : Int)) > 0)) false := ⟨decide_eq_false (by omega)⟩
        have hc : ¬ chkM t false = 0 := fun e => by
          have := (chk_ok e).2.1
          unfold emptyB at this
          simp at this
          omega
        haveI : BV (decide (chkM t false = 0)) false := ⟨decide_eq_false hc⟩
        refine calls_enter Try.func8 rfl _ Try.ntmps8 rfl ?_
        (repeat (first | refine go ?_ | refine goR ?_ | refine goS (fun yc hyc => ?_) | refine goL (fun _ _ => inferInstance) ?_ | with_reducible intro _ | refine goO (by first | omega | (simp only [List.length_cons, List.length_nil]; omega)) ?_ | fail))
        refine WC.draw [] (.l 0 (.l 1 (.l 3 (.l 4 (.h 2 (.h 5 (.p 6 (.p 7 (.l 8 (.l 9 (.l 11 (.l 12 (.l 13 (.l 14 (.l 15 (.l 16 (.p 17 (.p 18 (.h 10 (.p 19 (.p 20 (.p 21 (.l 22 (.h 23 (.p 24 (.p 25 (.l 26 (.l 27 (.h 28 (.p 29 (.p 30 (.p 31 .nil)))))))))))))))))))))))))))))))) mixed (by decide +kernel) ?_
        (repeat' (first | refine go ?_ | refine goR ?_ | refine goS (fun yc hyc => ?_) | refine goL (fun _ _ => inferInstance) ?_ | refine goF ?_ ?_ | with_reducible intro _ | refine goO (by first | omega | (simp only [List.length_cons, List.length_nil]; omega)) ?_ | fail))
        all_goals exact backN (σ0 := σ) Try.results8 (fun σ' _ _ => hK σ' inferInstance)⟩
theorem secret_chk {t : Tx} {b : Int64} (h : chkM t false = 0) (hb : -2147483648 ≤ b.toInt ∧ b.toInt ≤ 2147483647) (o : Bool) (ho : o = true ↔ (0 < b.toInt ∧ t.nulls.n = 0) ∨ (b.toInt < 0 ∧ t.notes.n = 0)) :
    chkM ⟨t.exp, t.ins, t.outs, t.anchor, t.nulls, t.notes, b⟩ false = if o then 20 else 0 := by
  obtain ⟨h1, h2, h3, h4, h5⟩ := chk_ok h
  have e1 : encE ⟨t.exp, t.ins, t.outs, t.anchor, t.nulls, t.notes, b⟩ = 0 := h1
  have e2 : emptyB ⟨t.exp, t.ins, t.outs, t.anchor, t.nulls, t.notes, b⟩ = false := h2
  have e3 : coinB ⟨t.exp, t.ins, t.outs, t.anchor, t.nulls, t.notes, b⟩ false = false := h3
  have e4 : repB ⟨t.exp, t.ins, t.outs, t.anchor, t.nulls, t.notes, b⟩ = false := h4
  have e5 : (sumM (valsM ⟨t.exp, t.ins, t.outs, t.anchor, t.nulls, t.notes, b⟩)).isNone = false := by
    have : (sumM (valsM t)).isNone = false := by
      unfold moneyB at h5
      cases hn : (sumM (valsM t)).isNone with
      | false => rfl
      | true => rw [hn] at h5; simp at h5
    exact this
  have e6 : moneyB ⟨t.exp, t.ins, t.outs, t.anchor, t.nulls, t.notes, b⟩ = o := by
    unfold moneyB
    rw [e5, Bool.eq_iff_iff, ho]
    simp
    omega
  simp only [chkM, e1, if_true, errsM, e2, e3, e4, e6]
  simp
instance rule_CheckSecret [ok : OkE σ txE t] {b : Int32} : CallRule Try.prog 4 [.agg (cats [#[.int .u32 (t.exp.toNat : Int)], #[.slice t.ins.A t.ins.n t.ins.c], #[.slice t.outs.A t.outs.n t.outs.c], kc t.anchor, #[.slice t.nulls.A t.nulls.n t.nulls.c], #[.slice t.notes.A t.notes.n t.notes.c], #[.int .i64 t.bal.toInt]]), .int .i32 b.toInt] σ (fun K _ => ∀ σ', Nx σ σ' .no → K (.bool true) σ') := ⟨fun K E hK => by
  cases h1 : heavyT t with
  | true =>
    haveI : BV (heavyT t) true := ⟨h1⟩
    refine calls_enter Try.func4 rfl _ Try.ntmps4 rfl ?_
    (repeat (first | refine go ?_ | refine goR ?_ | refine goS (fun yc hyc => ?_) | refine goL (fun _ _ => inferInstance) ?_ | with_reducible intro _ | refine goO (by first | omega | (simp only [List.length_cons, List.length_nil]; omega)) ?_ | fail))
    exact backN (σ0 := σ) Try.results4 (fun σ' _ _ => hK σ' inferInstance)
  | false =>
    haveI : BV (heavyT t) false := ⟨h1⟩
    have f1 := heavyT_f h1
    have hb1 := b.le_toInt
    have hb2 := b.toInt_lt
    by_cases hc : chkM t false = 0
    · haveI : Is (chkM t false) 0 := ⟨hc⟩
      haveI : Fits .i64 b.toInt := Fits.i64 (by omega) (by omega)
      have eb : (Int64.ofInt b.toInt).toInt = b.toInt := Int64.toInt_ofInt_of_le (by omega) (by omega)
      have hsc := fun o ho => secret_chk (b := Int64.ofInt b.toInt) hc (by rw [eb]; omega) o ho
      rw [eb] at hsc
      by_cases g1 : 0 < b.toInt
      · haveI : BV (decide (b.toInt > 0)) true := ⟨decide_eq_true g1⟩
        haveI : BV (decide (b.toInt < 0)) false := ⟨decide_eq_false (by omega)⟩
        by_cases g2 : t.nulls.n = 0
        · haveI : BV (decide ((t.nulls.n : Int) = 0)) true := ⟨decide_eq_true (by omega)⟩
          haveI : Is (chkM ⟨t.exp, ⟨t.ins.A, t.ins.n, t.ins.c, t.ins.l⟩, ⟨t.outs.A, t.outs.n, t.outs.c, t.outs.l⟩, t.anchor, ⟨t.nulls.A, t.nulls.n, t.nulls.c, t.nulls.l⟩, ⟨t.notes.A, t.notes.n, t.notes.c, t.notes.l⟩, Int64.ofInt b.toInt⟩ false) 20 := ⟨hsc true (by simp; omega)⟩
          refine calls_enter Try.func4 rfl _ Try.ntmps4 rfl ?_
          (repeat (first | refine go ?_ | refine goR ?_ | refine goS (fun yc hyc => ?_) | refine goL (fun _ _ => inferInstance) ?_ | with_reducible intro _ | refine goO (by first | omega | (simp only [List.length_cons, List.length_nil]; omega)) ?_ | fail))
          exact backN (σ0 := σ) Try.results4 (fun σ' _ _ => hK σ' inferInstance)
        · haveI : BV (decide ((t.nulls.n : Int) = 0)) false := ⟨decide_eq_false (by omega)⟩
          haveI : Is (chkM ⟨t.exp, ⟨t.ins.A, t.ins.n, t.ins.c, t.ins.l⟩, ⟨t.outs.A, t.outs.n, t.outs.c, t.outs.l⟩, t.anchor, ⟨t.nulls.A, t.nulls.n, t.nulls.c, t.nulls.l⟩, ⟨t.notes.A, t.notes.n, t.notes.c, t.notes.l⟩, Int64.ofInt b.toInt⟩ false) 0 := ⟨hsc false (by simp; omega)⟩
          refine calls_enter Try.func4 rfl _ Try.ntmps4 rfl ?_
          (repeat (first | refine go ?_ | refine goR ?_ | refine goS (fun yc hyc => ?_) | refine goL (fun _ _ => inferInstance) ?_ | with_reducible intro _ | refine goO (by first | omega | (simp only [List.length_cons, List.length_nil]; omega)) ?_ | fail))
          exact backN (σ0 := σ) Try.results4 (fun σ' _ _ => hK σ' inferInstance)
      · haveI : BV (decide (b.toInt > 0)) false := ⟨decide_eq_false g1⟩
        by_cases g3 : b.toInt < 0
        · haveI : BV (decide (b.toInt < 0)) true := ⟨decide_eq_true g3⟩
          by_cases g2 : t.notes.n = 0
          · haveI : BV (decide ((t.notes.n : Int) = 0)) true := ⟨decide_eq_true (by omega)⟩
            haveI : Is (chkM ⟨t.exp, ⟨t.ins.A, t.ins.n, t.ins.c, t.ins.l⟩, ⟨t.outs.A, t.outs.n, t.outs.c, t.outs.l⟩, t.anchor, ⟨t.nulls.A, t.nulls.n, t.nulls.c, t.nulls.l⟩, ⟨t.notes.A, t.notes.n, t.notes.c, t.notes.l⟩, Int64.ofInt b.toInt⟩ false) 20 := ⟨hsc true (by simp; omega)⟩
            refine calls_enter Try.func4 rfl _ Try.ntmps4 rfl ?_
            (repeat (first | refine go ?_ | refine goR ?_ | refine goS (fun yc hyc => ?_) | refine goL (fun _ _ => inferInstance) ?_ | with_reducible intro _ | refine goO (by first | omega | (simp only [List.length_cons, List.length_nil]; omega)) ?_ | fail))
            exact backN (σ0 := σ) Try.results4 (fun σ' _ _ => hK σ' inferInstance)
          · haveI : BV (decide ((t.notes.n : Int) = 0)) false := ⟨decide_eq_false (by omega)⟩
            haveI : Is (chkM ⟨t.exp, ⟨t.ins.A, t.ins.n, t.ins.c, t.ins.l⟩, ⟨t.outs.A, t.outs.n, t.outs.c, t.outs.l⟩, t.anchor, ⟨t.nulls.A, t.nulls.n, t.nulls.c, t.nulls.l⟩, ⟨t.notes.A, t.notes.n, t.notes.c, t.notes.l⟩, Int64.ofInt b.toInt⟩ false) 0 := ⟨hsc false (by simp; omega)⟩
            refine calls_enter Try.func4 rfl _ Try.ntmps4 rfl ?_
            (repeat (first | refine go ?_ | refine goR ?_ | refine goS (fun yc hyc => ?_) | refine goL (fun _ _ => inferInstance) ?_ | with_reducible intro _ | refine goO (by first | omega | (simp only [List.length_cons, List.length_nil]; omega)) ?_ | fail))
            exact backN (σ0 := σ) Try.results4 (fun σ' _ _ => hK σ' inferInstance)
        · haveI : BV (decide (b.toInt < 0)) false := ⟨decide_eq_false g3⟩
          haveI : Is (chkM ⟨t.exp, ⟨t.ins.A, t.ins.n, t.ins.c, t.ins.l⟩, ⟨t.outs.A, t.outs.n, t.outs.c, t.outs.l⟩, t.anchor, ⟨t.nulls.A, t.nulls.n, t.nulls.c, t.nulls.l⟩, ⟨t.notes.A, t.notes.n, t.notes.c, t.notes.l⟩, Int64.ofInt b.toInt⟩ false) 0 := ⟨hsc false (by simp; omega)⟩
          refine calls_enter Try.func4 rfl _ Try.ntmps4 rfl ?_
          (repeat (first | refine go ?_ | refine goR ?_ | refine goS (fun yc hyc => ?_) | refine goL (fun _ _ => inferInstance) ?_ | with_reducible intro _ | refine goO (by first | omega | (simp only [List.length_cons, List.length_nil]; omega)) ?_ | fail))
          exact backN (σ0 := σ) Try.results4 (fun σ' _ _ => hK σ' inferInstance)
    · haveI : BV (decide (chkM t false = 0)) false := ⟨decide_eq_false hc⟩
      refine calls_enter Try.func4 rfl _ Try.ntmps4 rfl ?_
      (repeat (first | refine go ?_ | refine goR ?_ | refine goS (fun yc hyc => ?_) | refine goL (fun _ _ => inferInstance) ?_ | with_reducible intro _ | refine goO (by first | omega | (simp only [List.length_cons, List.length_nil]; omega)) ?_ | fail))
      exact backN (σ0 := σ) Try.results4 (fun σ' _ _ => hK σ' inferInstance)⟩
end
end Go.Proofs.Ythdhnkgnbdociaa
