/- The reference's Encode: the bytes of a transaction. No condition. (Printed by gen_tg.py.) -/
import Derived.Test.YthdhnkgnbdociaaTf
set_option linter.all false
set_option maxHeartbeats 40000000
set_option synthInstance.maxHeartbeats 2000000
set_option synthInstance.maxSize 100000
namespace Go.Proofs.Ythdhnkgnbdociaa
open Go Go.RowKit
theorem flat_take {α : Type} [Inhabited α] (g : α → Bs) {xs : List α} {i : Nat} (h : i < xs.length) : (xs.take (i + 1)).flatMap g = (xs.take i).flatMap g ++ g xs[i]! := by
  rw [take_snoc h, List.flatMap_append]; simp
theorem flat_len {α : Type} (g : α → Bs) (m : Nat) (h : ∀ x, (g x).length ≤ m) (xs : List α) : (xs.flatMap g).length ≤ m * xs.length := by
  induction xs with
  | nil => simp
  | cons x l ih =>
    have := h x
    simp only [List.flatMap_cons, List.length_append, List.length_cons, Nat.mul_add]; omega
section
variable {σ : St} {v1 : Value} {t : Tx}
instance rule_ref_Encode [h : EncV σ txE v1 t] {e : Int} [q : Is (encE t) e] : CallRule Try.prog 21 [v1] σ (fun K _ => ∀ σ', Nx σ σ' .no → K (.tuple #[sv (encS t), .int .i64 e]) σ') := ⟨fun K E hK => by
  have e1 : v1 = .agg (cats [#[.int .u32 (t.exp.toNat : Int)], #[.slice t.ins.A t.ins.n t.ins.c], #[.slice t.outs.A t.outs.n t.outs.c], kc t.anchor, #[.slice t.nulls.A t.nulls.n t.nulls.c], #[.slice t.notes.A t.notes.n t.notes.c], #[.int .i64 t.bal.toInt]]) := h.eq
  subst e1
  haveI : OkE σ txE t := ⟨h.ok⟩
  have hq := q.eq; subst hq
  by_cases hm : 40 < maxL [t.ins.n, t.outs.n, t.nulls.n, t.notes.n]
  · have e2 := encE_many hm
    have e3 : encS t = [] := by unfold encS; rw [e2]; rfl
    rw [e2, e3] at hK
    rw [maxL4] at hm
    by_cases h0 : 40 < t.ins.n
    · skip
      haveI : BV (decide ((t.ins.n : Int) > 40)) true := ⟨by simp; omega⟩
      haveI : BV (decide (40 < (t.ins.n : Int))) true := ⟨by simp; omega⟩
      refine calls_enter Try.func21 rfl _ Try.ntmps21 rfl ?_
      (repeat (first | refine go ?_ | refine goR ?_ | refine goS (fun yc hyc => ?_) | refine goL (fun _ _ => inferInstance) ?_ | with_reducible intro _ | refine goO (by first | omega | (simp only [List.length_cons, List.length_nil]; omega)) ?_ | fail))
      exact backN (σ0 := σ) Try.results21 (fun σ' _ _ => hK σ' inferInstance)
    haveI : BV (decide ((t.ins.n : Int) > 40)) false := ⟨by simp; omega⟩
    haveI : BV (decide (40 < (t.ins.n : Int))) false := ⟨by simp; omega⟩
    by_cases h1 : 40 < t.outs.n
    · skip
      haveI : BV (decide ((t.outs.n : Int) > 40)) true := ⟨by simp; omega⟩
      haveI : BV (decide (40 < (t.outs.n : Int))) true := ⟨by simp; omega⟩
      refine calls_enter Try.func21 rfl _ Try.ntmps21 rfl ?_
      (repeat (first | refine go ?_ | refine goR ?_ | refine goS (fun yc hyc => ?_) | refine goL (fun _ _ => inferInstance) ?_ | with_reducible intro _ | refine goO (by first | omega | (simp only [List.length_cons, List.length_nil]; omega)) ?_ | fail))
      exact backN (σ0 := σ) Try.results21 (fun σ' _ _ => hK σ' inferInstance)
    haveI : BV (decide ((t.outs.n : Int) > 40)) false := ⟨by simp; omega⟩
    haveI : BV (decide (40 < (t.outs.n : Int))) false := ⟨by simp; omega⟩
    by_cases h2 : 40 < t.nulls.n
    · skip
      haveI : BV (decide ((t.nulls.n : Int) > 40)) true := ⟨by simp; omega⟩
      haveI : BV (decide (40 < (t.nulls.n : Int))) true := ⟨by simp; omega⟩
      refine calls_enter Try.func21 rfl _ Try.ntmps21 rfl ?_
      (repeat (first | refine go ?_ | refine goR ?_ | refine goS (fun yc hyc => ?_) | refine goL (fun _ _ => inferInstance) ?_ | with_reducible intro _ | refine goO (by first | omega | (simp only [List.length_cons, List.length_nil]; omega)) ?_ | fail))
      exact backN (σ0 := σ) Try.results21 (fun σ' _ _ => hK σ' inferInstance)
    haveI : BV (decide ((t.nulls.n : Int) > 40)) false := ⟨by simp; omega⟩
    haveI : BV (decide (40 < (t.nulls.n : Int))) false := ⟨by simp; omega⟩
    haveI : BV (decide ((t.notes.n : Int) > 40)) true := ⟨by simp; omega⟩
    haveI : BV (decide (40 < (t.notes.n : Int))) true := ⟨by simp; omega⟩
    refine calls_enter Try.func21 rfl _ Try.ntmps21 rfl ?_
    (repeat (first | refine go ?_ | refine goR ?_ | refine goS (fun yc hyc => ?_) | refine goL (fun _ _ => inferInstance) ?_ | with_reducible intro _ | refine goO (by first | omega | (simp only [List.length_cons, List.length_nil]; omega)) ?_ | fail))
    exact backN (σ0 := σ) Try.results21 (fun σ' _ _ => hK σ' inferInstance)
  · have hm4 := hm
    rw [maxL4] at hm4
    haveI : BV (decide ((t.ins.n : Int) > 40)) false := ⟨by simp; omega⟩
    haveI : BV (decide (40 < (t.ins.n : Int))) false := ⟨by simp; omega⟩
    haveI : BV (decide ((t.outs.n : Int) > 40)) false := ⟨by simp; omega⟩
    haveI : BV (decide (40 < (t.outs.n : Int))) false := ⟨by simp; omega⟩
    haveI : BV (decide ((t.nulls.n : Int) > 40)) false := ⟨by simp; omega⟩
    haveI : BV (decide (40 < (t.nulls.n : Int))) false := ⟨by simp; omega⟩
    haveI : BV (decide ((t.notes.n : Int) > 40)) false := ⟨by simp; omega⟩
    haveI : BV (decide (40 < (t.notes.n : Int))) false := ⟨by simp; omega⟩
    by_cases ha : t.nulls.n = 0 ∧ t.anchor ≠ key0
    · haveI : BV (decide ((t.nulls.n : Int) = 0)) true := ⟨by simp; omega⟩
      haveI : BV (decide (t.anchor = key0)) false := ⟨by simpa using ha.2⟩
      have e2 := encE_arg hm ha
      have e3 : encS t = [] := by unfold encS; rw [e2]; rfl
      rw [e2, e3] at hK
      refine calls_enter Try.func21 rfl _ Try.ntmps21 rfl ?_
      (repeat (first | refine go ?_ | refine goR ?_ | refine goS (fun yc hyc => ?_) | refine goL (fun _ _ => inferInstance) ?_ | with_reducible intro _ | refine goO (by first | omega | (simp only [List.length_cons, List.length_nil]; omega)) ?_ | fail))
      exact backN (σ0 := σ) Try.results21 (fun σ' _ _ => hK σ' inferInstance)
    · have e2 := encE_ok hm ha
      have e3 : encS t = encM t := by unfold encS; rw [e2]; rfl
      rw [e2, e3] at hK
      have hl1 := (inferInstance : SL σ t.ins.A t.ins.n t.ins.c ptE t.ins.l).len
      have hl2 := (inferInstance : SL σ t.outs.A t.outs.n t.outs.c otE t.outs.l).len
      have hl3 := (inferInstance : SL σ t.nulls.A t.nulls.n t.nulls.c keyE t.nulls.l).len
      have hl4 := (inferInstance : SL σ t.notes.A t.notes.n t.notes.c keyE t.notes.l).len
      have hK2 : ∀ (l : Bs) σ', l = encM t → Nx σ σ' .no → K (.tuple #[sv l, .int .i64 0]) σ' := by
        rintro l σ' rfl hn
        exact hK σ' hn
      haveI : Fits .u64 (t.ins.n : Int) := Fits.u64 (by omega) (by omega)
      haveI : Fits .u64 (t.outs.n : Int) := Fits.u64 (by omega) (by omega)
      haveI : Fits .u64 (t.nulls.n : Int) := Fits.u64 (by omega) (by omega)
      haveI : Fits .u64 (t.notes.n : Int) := Fits.u64 (by omega) (by omega)
      by_cases h0 : t.nulls.n = 0
      · skip
        haveI : BV (decide ((t.nulls.n : Int) > 0)) false := ⟨by simp; omega⟩
        haveI : BV (decide (0 < (t.nulls.n : Int))) false := ⟨by simp; omega⟩
        haveI : BV (decide ((t.nulls.n : Int) = 0)) true := ⟨by simp; omega⟩
        haveI : BV (decide (t.anchor = key0)) true := ⟨by
          by_cases e : t.anchor = key0
          · simpa using e
          · exact absurd ⟨h0, e⟩ ha⟩
        refine calls_enter Try.func21 rfl _ Try.ntmps21 rfl ?_
        (repeat (first | refine go ?_ | refine goR ?_ | refine goS (fun yc hyc => ?_) | refine goL (fun _ _ => inferInstance) ?_ | with_reducible intro _ | refine goO (by first | omega | (simp only [List.length_cons, List.length_nil]; omega)) ?_ | fail))
        refine WC.draw [] (.l 0 (.l 1 (.l 2 (.l 4 (.l 5 (.l 6 (.l 7 (.h 3 (.h 8 (.p 9 (.p 10 .nil))))))))))) mixed (by decide +kernel) ?_
        (repeat' (first | refine go ?_ | refine goR ?_ | refine goS (fun yc hyc => ?_) | refine goL (fun _ _ => inferInstance) ?_ | refine goF ?_ ?_ | with_reducible intro _ | refine goO (by first | omega | (simp only [List.length_cons, List.length_nil]; omega)) ?_ | fail))
        all_goals skip
        refine WC.loopW 75557861474114509733936 .no (fun (i : Nat) f s => At f 5 (.int .i64 (i : Int)) ∧ i ≤ t.ins.n ∧ ∃ l, At f 4 (sv l) ∧ l = (leB 4 t.exp.toNat ++ leB 1 t.ins.n) ++ (t.ins.l.take i).flatMap encPt ∧ l.length ≤ 2000) (fun i => t.ins.n - i) 0
          ⟨At.to (.int .i64 0) rfl, Nat.zero_le _, _, inferInstance, by simp, by simp only [List.length_append, leB_len, List.length_nil, key_len]; omega⟩ ?_
        rintro i f0 s0 ha0 hs0 ⟨ai, hi, l0, a4, el0, hll0⟩
        haveI : LenLe l0 2000 := ⟨hll0⟩
        by_cases hlt : i < t.ins.n
        · haveI : BV (decide ((i : Int) < (t.ins.n : Int))) true := ⟨by simpa using hlt⟩
          haveI : IdxLt i t.ins.n := ⟨hlt⟩
          haveI : Fits .i64 ((i : Int) + 1) := Fits.i64 (by omega) (by omega)
          have hst : (t.ins.l.take (i + 1)).flatMap encPt = (t.ins.l.take i).flatMap encPt ++ encPt t.ins.l[i]! := flat_take _ (by omega)
          have hfl := flat_len encPt 36 (fun x => by simp only [encPt_len]; omega) (t.ins.l.take (i + 1))
          rw [List.length_take] at hfl
          have hbl := (show (leB 4 t.exp.toNat ++ leB 1 t.ins.n).length ≤ 5 from by simp [leB_len])
          (repeat (first | refine go ?_ | refine goR ?_ | refine goS (fun yc hyc => ?_) | refine goL (fun _ _ => inferInstance) ?_ | with_reducible intro _ | refine goO (by first | omega | (simp only [List.length_cons, List.length_nil]; omega)) ?_ | fail))
          refine WC.draw [] (.p 0 (.l 1 (.l 2 (.p 3 (.l 4 (.l 5 (.l 6 (.l 9 (.l 10 (.p 11 (.l 12 (.l 13 (.l 14 (.l 15 (.h 7 (.p 8 (.h 16 (.p 17 (.p 18 .nil))))))))))))))))))) mixed (by decide +kernel) ?_
          (repeat' (first | refine go ?_ | refine goR ?_ | refine goS (fun yc hyc => ?_) | refine goL (fun _ _ => inferInstance) ?_ | refine goF ?_ ?_ | with_reducible intro _ | refine goO (by first | omega | (simp only [List.length_cons, List.length_nil]; omega)) ?_ | fail))
          all_goals refine loop_w (i + 1) ⟨At.to (.int .i64 ((i : Int) + 1)) (by simp), hlt, _, inferInstance, by rw [hst, el0]; simp only [encPt, List.append_assoc], ?_⟩ (by omega)
          have e : ((leB 4 t.exp.toNat ++ leB 1 t.ins.n) ++ (t.ins.l.take (i + 1)).flatMap encPt).length ≤ 2000 := by simp only [List.length_append] at hbl ⊢; omega
          rw [hst] at e
          rw [el0]
          simpa only [encPt, List.append_assoc] using e
        · haveI : BV (decide ((i : Int) < (t.ins.n : Int))) false := ⟨by simpa using hlt⟩
          rw [take_all (by omega)] at el0
          (repeat (first | refine go ?_ | refine goR ?_ | refine goS (fun yc hyc => ?_) | refine goL (fun _ _ => inferInstance) ?_ | with_reducible intro _ | refine goO (by first | omega | (simp only [List.length_cons, List.length_nil]; omega)) ?_ | fail))
          refine WC.loopW 324518543987020169866122622926928 .no (fun (i : Nat) f s => At f 6 (.int .i64 (i : Int)) ∧ i ≤ t.outs.n ∧ ∃ l, At f 4 (sv l) ∧ l = (l0 ++ leB 1 t.outs.n) ++ (t.outs.l.take i).flatMap encOt ∧ l.length ≤ 4000) (fun i => t.outs.n - i) 0
            ⟨At.to (.int .i64 0) rfl, Nat.zero_le _, _, inferInstance, by simp, by simp only [List.length_append, leB_len, List.length_nil, key_len]; omega⟩ ?_
          rintro i f1 s1 ha1 hs1 ⟨ai, hi, l1, a4, el1, hll1⟩
          haveI : LenLe l1 4000 := ⟨hll1⟩
          by_cases hlt : i < t.outs.n
          · haveI : BV (decide ((i : Int) < (t.outs.n : Int))) true := ⟨by simpa using hlt⟩
            haveI : IdxLt i t.outs.n := ⟨hlt⟩
            haveI : Fits .i64 ((i : Int) + 1) := Fits.i64 (by omega) (by omega)
            have hst : (t.outs.l.take (i + 1)).flatMap encOt = (t.outs.l.take i).flatMap encOt ++ encOt t.outs.l[i]! := flat_take _ (by omega)
            have hfl := flat_len encOt 40 (fun x => by simp only [encOt_len]; omega) (t.outs.l.take (i + 1))
            rw [List.length_take] at hfl
            have hbl := (show (l0 ++ leB 1 t.outs.n).length ≤ 2001 from by simp only [List.length_append, leB_len]; omega)
            (repeat (first | refine go ?_ | refine goR ?_ | refine goS (fun yc hyc => ?_) | refine goL (fun _ _ => inferInstance) ?_ | with_reducible intro _ | refine goO (by first | omega | (simp only [List.length_cons, List.length_nil]; omega)) ?_ | fail))
            refine WC.draw [] (.p 0 (.l 1 (.l 2 (.p 3 (.l 4 (.l 5 (.l 6 (.l 7 (.l 10 (.l 11 (.p 12 (.l 13 (.l 14 (.l 15 (.h 8 (.p 9 (.h 16 (.p 17 (.p 18 .nil))))))))))))))))))) mixed (by decide +kernel) ?_
            (repeat' (first | refine go ?_ | refine goR ?_ | refine goS (fun yc hyc => ?_) | refine goL (fun _ _ => inferInstance) ?_ | refine goF ?_ ?_ | with_reducible intro _ | refine goO (by first | omega | (simp only [List.length_cons, List.length_nil]; omega)) ?_ | fail))
            all_goals refine loop_w (i + 1) ⟨At.to (.int .i64 ((i : Int) + 1)) (by simp), hlt, _, inferInstance, by rw [hst, el1]; simp only [encOt, List.append_assoc], ?_⟩ (by omega)
            have e : ((l0 ++ leB 1 t.outs.n) ++ (t.outs.l.take (i + 1)).flatMap encOt).length ≤ 4000 := by simp only [List.length_append] at hbl ⊢; omega
            rw [hst] at e
            rw [el1]
            simpa only [encOt, List.append_assoc] using e
          · haveI : BV (decide ((i : Int) < (t.outs.n : Int))) false := ⟨by simpa using hlt⟩
            rw [take_all (by omega)] at el1
            have hb2 : (l1 ++ leB 1 t.nulls.n).length ≤ 4001 := by simp only [List.length_append, leB_len]; omega
            (repeat (first | refine go ?_ | refine goR ?_ | refine goS (fun yc hyc => ?_) | refine goL (fun _ _ => inferInstance) ?_ | with_reducible intro _ | refine goO (by first | omega | (simp only [List.length_cons, List.length_nil]; omega)) ?_ | fail))
            refine WC.loopW 696877019806149414519024735107296811548816 .no (fun (i : Nat) f s => At f 7 (.int .i64 (i : Int)) ∧ i ≤ t.nulls.n ∧ ∃ l, At f 4 (sv l) ∧ l = (l1 ++ leB 1 t.nulls.n) ++ (t.nulls.l.take i).flatMap (fun k : Key => k.toList) ∧ l.length ≤ 6000) (fun i => t.nulls.n - i) 0
              ⟨At.to (.int .i64 0) rfl, Nat.zero_le _, _, inferInstance, by simp, by simp only [List.length_append, leB_len, List.length_nil, key_len]; omega⟩ ?_
            rintro i f2 s2 ha2 hs2 ⟨ai, hi, l2, a4, el2, hll2⟩
            haveI : LenLe l2 6000 := ⟨hll2⟩
            by_cases hlt : i < t.nulls.n
            · exact absurd hlt (by omega)
            · haveI : BV (decide ((i : Int) < (t.nulls.n : Int))) false := ⟨by simpa using hlt⟩
              rw [take_all (by omega)] at el2
              (repeat (first | refine go ?_ | refine goR ?_ | refine goS (fun yc hyc => ?_) | refine goL (fun _ _ => inferInstance) ?_ | with_reducible intro _ | refine goO (by first | omega | (simp only [List.length_cons, List.length_nil]; omega)) ?_ | fail))
              have hb3 : (l2 ++ leB 1 t.notes.n).length ≤ 6001 := by simp only [List.length_append, leB_len]; omega
              refine WC.loopW 2922914071681011713914803522559475445865841164560 .no (fun (i : Nat) f s => At f 8 (.int .i64 (i : Int)) ∧ i ≤ t.notes.n ∧ ∃ l, At f 4 (sv l) ∧ l = (l2 ++ leB 1 t.notes.n) ++ (t.notes.l.take i).flatMap (fun k : Key => k.toList) ∧ l.length ≤ 8000) (fun i => t.notes.n - i) 0
                ⟨At.to (.int .i64 0) rfl, Nat.zero_le _, _, inferInstance, by simp, by simp only [List.length_append, leB_len, List.length_nil, key_len]; omega⟩ ?_
              rintro i f3 s3 ha3 hs3 ⟨ai, hi, l3, a4, el3, hll3⟩
              haveI : LenLe l3 8000 := ⟨hll3⟩
              by_cases hlt : i < t.notes.n
              · haveI : BV (decide ((i : Int) < (t.notes.n : Int))) true := ⟨by simpa using hlt⟩
                haveI : IdxLt i t.notes.n := ⟨hlt⟩
                haveI : Fits .i64 ((i : Int) + 1) := Fits.i64 (by omega) (by omega)
                have hst : (t.notes.l.take (i + 1)).flatMap (fun k : Key => k.toList) = (t.notes.l.take i).flatMap (fun k : Key => k.toList) ++ (fun k : Key => k.toList) t.notes.l[i]! := flat_take _ (by omega)
                have hfl := flat_len (fun k : Key => k.toList) 32 (fun x => by simp) (t.notes.l.take (i + 1))
                rw [List.length_take] at hfl
                have hbl := hb3
                (repeat (first | refine go ?_ | refine goR ?_ | refine goS (fun yc hyc => ?_) | refine goL (fun _ _ => inferInstance) ?_ | with_reducible intro _ | refine goO (by first | omega | (simp only [List.length_cons, List.length_nil]; omega)) ?_ | fail))
                refine loop_w (i + 1) ⟨At.to (.int .i64 ((i : Int) + 1)) (by simp), hlt, _, inferInstance, by rw [hst, el3]; simp only [List.append_assoc], ?_⟩ (by omega)
                have e : ((l2 ++ leB 1 t.notes.n) ++ (t.notes.l.take (i + 1)).flatMap (fun k : Key => k.toList)).length ≤ 8000 := by simp only [List.length_append] at hbl ⊢; omega
                rw [hst] at e
                rw [el3]
                simpa only [List.append_assoc] using e
              · haveI : BV (decide ((i : Int) < (t.notes.n : Int))) false := ⟨by simpa using hlt⟩
                rw [take_all (by omega)] at el3
                (repeat (first | refine go ?_ | refine goR ?_ | refine goS (fun yc hyc => ?_) | refine goL (fun _ _ => inferInstance) ?_ | with_reducible intro _ | refine goO (by first | omega | (simp only [List.length_cons, List.length_nil]; omega)) ?_ | fail))
                exact backN (σ0 := σ) Try.results21 (fun σ' _ _ => hK2 _ σ' (by rw [el3, el2, el1, el0]; simp only [encM, h0, if_true, if_false, List.append_assoc, List.nil_append]) inferInstance)
      · skip
        haveI : BV (decide ((t.nulls.n : Int) > 0)) true := ⟨by simp; omega⟩
        haveI : BV (decide (0 < (t.nulls.n : Int))) true := ⟨by simp; omega⟩
        haveI : BV (decide ((t.nulls.n : Int) = 0)) false := ⟨by simp; omega⟩
        refine calls_enter Try.func21 rfl _ Try.ntmps21 rfl ?_
        (repeat (first | refine go ?_ | refine goR ?_ | refine goS (fun yc hyc => ?_) | refine goL (fun _ _ => inferInstance) ?_ | with_reducible intro _ | refine goO (by first | omega | (simp only [List.length_cons, List.length_nil]; omega)) ?_ | fail))
        refine WC.draw [] (.l 0 (.l 1 (.l 2 (.l 4 (.l 5 (.l 6 (.l 7 (.h 3 (.h 8 (.p 9 (.p 10 .nil))))))))))) mixed (by decide +kernel) ?_
        (repeat' (first | refine go ?_ | refine goR ?_ | refine goS (fun yc hyc => ?_) | refine goL (fun _ _ => inferInstance) ?_ | refine goF ?_ ?_ | with_reducible intro _ | refine goO (by first | omega | (simp only [List.length_cons, List.length_nil]; omega)) ?_ | fail))
        all_goals skip
        refine WC.loopW 75557861474114509733936 .no (fun (i : Nat) f s => At f 5 (.int .i64 (i : Int)) ∧ i ≤ t.ins.n ∧ ∃ l, At f 4 (sv l) ∧ l = (leB 4 t.exp.toNat ++ leB 1 t.ins.n) ++ (t.ins.l.take i).flatMap encPt ∧ l.length ≤ 2000) (fun i => t.ins.n - i) 0
          ⟨At.to (.int .i64 0) rfl, Nat.zero_le _, _, inferInstance, by simp, by simp only [List.length_append, leB_len, List.length_nil, key_len]; omega⟩ ?_
        rintro i f0 s0 ha0 hs0 ⟨ai, hi, l0, a4, el0, hll0⟩
        haveI : LenLe l0 2000 := ⟨hll0⟩
        by_cases hlt : i < t.ins.n
        · haveI : BV (decide ((i : Int) < (t.ins.n : Int))) true := ⟨by simpa using hlt⟩
          haveI : IdxLt i t.ins.n := ⟨hlt⟩
          haveI : Fits .i64 ((i : Int) + 1) := Fits.i64 (by omega) (by omega)
          have hst : (t.ins.l.take (i + 1)).flatMap encPt = (t.ins.l.take i).flatMap encPt ++ encPt t.ins.l[i]! := flat_take _ (by omega)
          have hfl := flat_len encPt 36 (fun x => by simp only [encPt_len]; omega) (t.ins.l.take (i + 1))
          rw [List.length_take] at hfl
          have hbl := (show (leB 4 t.exp.toNat ++ leB 1 t.ins.n).length ≤ 5 from by simp [leB_len])
          (repeat (first | refine go ?_ | refine goR ?_ | refine goS (fun yc hyc => ?_) | refine goL (fun _ _ => inferInstance) ?_ | with_reducible intro _ | refine goO (by first | omega | (simp only [List.length_cons, List.length_nil]; omega)) ?_ | fail))
          refine WC.draw [] (.p 0 (.l 1 (.l 2 (.p 3 (.l 4 (.l 5 (.l 6 (.l 9 (.l 10 (.p 11 (.l 12 (.l 13 (.l 14 (.l 15 (.h 7 (.p 8 (.h 16 (.p 17 (.p 18 .nil))))))))))))))))))) mixed (by decide +kernel) ?_
          (repeat' (first | refine go ?_ | refine goR ?_ | refine goS (fun yc hyc => ?_) | refine goL (fun _ _ => inferInstance) ?_ | refine goF ?_ ?_ | with_reducible intro _ | refine goO (by first | omega | (simp only [List.length_cons, List.length_nil]; omega)) ?_ | fail))
          all_goals refine loop_w (i + 1) ⟨At.to (.int .i64 ((i : Int) + 1)) (by simp), hlt, _, inferInstance, by rw [hst, el0]; simp only [encPt, List.append_assoc], ?_⟩ (by omega)
          have e : ((leB 4 t.exp.toNat ++ leB 1 t.ins.n) ++ (t.ins.l.take (i + 1)).flatMap encPt).length ≤ 2000 := by simp only [List.length_append] at hbl ⊢; omega
          rw [hst] at e
          rw [el0]
          simpa only [encPt, List.append_assoc] using e
        · haveI : BV (decide ((i : Int) < (t.ins.n : Int))) false := ⟨by simpa using hlt⟩
          rw [take_all (by omega)] at el0
          (repeat (first | refine go ?_ | refine goR ?_ | refine goS (fun yc hyc => ?_) | refine goL (fun _ _ => inferInstance) ?_ | with_reducible intro _ | refine goO (by first | omega | (simp only [List.length_cons, List.length_nil]; omega)) ?_ | fail))
          refine WC.loopW 324518543987020169866122622926928 .no (fun (i : Nat) f s => At f 6 (.int .i64 (i : Int)) ∧ i ≤ t.outs.n ∧ ∃ l, At f 4 (sv l) ∧ l = (l0 ++ leB 1 t.outs.n) ++ (t.outs.l.take i).flatMap encOt ∧ l.length ≤ 4000) (fun i => t.outs.n - i) 0
            ⟨At.to (.int .i64 0) rfl, Nat.zero_le _, _, inferInstance, by simp, by simp only [List.length_append, leB_len, List.length_nil, key_len]; omega⟩ ?_
          rintro i f1 s1 ha1 hs1 ⟨ai, hi, l1, a4, el1, hll1⟩
          haveI : LenLe l1 4000 := ⟨hll1⟩
          by_cases hlt : i < t.outs.n
          · haveI : BV (decide ((i : Int) < (t.outs.n : Int))) true := ⟨by simpa using hlt⟩
            haveI : IdxLt i t.outs.n := ⟨hlt⟩
            haveI : Fits .i64 ((i : Int) + 1) := Fits.i64 (by omega) (by omega)
            have hst : (t.outs.l.take (i + 1)).flatMap encOt = (t.outs.l.take i).flatMap encOt ++ encOt t.outs.l[i]! := flat_take _ (by omega)
            have hfl := flat_len encOt 40 (fun x => by simp only [encOt_len]; omega) (t.outs.l.take (i + 1))
            rw [List.length_take] at hfl
            have hbl := (show (l0 ++ leB 1 t.outs.n).length ≤ 2001 from by simp only [List.length_append, leB_len]; omega)
            (repeat (first | refine go ?_ | refine goR ?_ | refine goS (fun yc hyc => ?_) | refine goL (fun _ _ => inferInstance) ?_ | with_reducible intro _ | refine goO (by first | omega | (simp only [List.length_cons, List.length_nil]; omega)) ?_ | fail))
            refine WC.draw [] (.p 0 (.l 1 (.l 2 (.p 3 (.l 4 (.l 5 (.l 6 (.l 7 (.l 10 (.l 11 (.p 12 (.l 13 (.l 14 (.l 15 (.h 8 (.p 9 (.h 16 (.p 17 (.p 18 .nil))))))))))))))))))) mixed (by decide +kernel) ?_
            (repeat' (first | refine go ?_ | refine goR ?_ | refine goS (fun yc hyc => ?_) | refine goL (fun _ _ => inferInstance) ?_ | refine goF ?_ ?_ | with_reducible intro _ | refine goO (by first | omega | (simp only [List.length_cons, List.length_nil]; omega)) ?_ | fail))
            all_goals refine loop_w (i + 1) ⟨At.to (.int .i64 ((i : Int) + 1)) (by simp), hlt, _, inferInstance, by rw [hst, el1]; simp only [encOt, List.append_assoc], ?_⟩ (by omega)
            have e : ((l0 ++ leB 1 t.outs.n) ++ (t.outs.l.take (i + 1)).flatMap encOt).length ≤ 4000 := by simp only [List.length_append] at hbl ⊢; omega
            rw [hst] at e
            rw [el1]
            simpa only [encOt, List.append_assoc] using e
          · haveI : BV (decide ((i : Int) < (t.outs.n : Int))) false := ⟨by simpa using hlt⟩
            rw [take_all (by omega)] at el1
            have hb2 : (l1 ++ leB 1 t.nulls.n).length ≤ 4001 := by simp only [List.length_append, leB_len]; omega
            (repeat (first | refine go ?_ | refine goR ?_ | refine goS (fun yc hyc => ?_) | refine goL (fun _ _ => inferInstance) ?_ | with_reducible intro _ | refine goO (by first | omega | (simp only [List.length_cons, List.length_nil]; omega)) ?_ | fail))
            refine WC.loopW 696877019806149414519024735107296811548816 .no (fun (i : Nat) f s => At f 7 (.int .i64 (i : Int)) ∧ i ≤ t.nulls.n ∧ ∃ l, At f 4 (sv l) ∧ l = (l1 ++ leB 1 t.nulls.n ++ t.anchor.toList) ++ (t.nulls.l.take i).flatMap (fun k : Key => k.toList) ∧ l.length ≤ 6000) (fun i => t.nulls.n - i) 0
              ⟨At.to (.int .i64 0) rfl, Nat.zero_le _, _, inferInstance, by simp, by simp only [List.length_append, leB_len, List.length_nil, key_len]; omega⟩ ?_
            rintro i f2 s2 ha2 hs2 ⟨ai, hi, l2, a4, el2, hll2⟩
            haveI : LenLe l2 6000 := ⟨hll2⟩
            by_cases hlt : i < t.nulls.n
            · haveI : BV (decide ((i : Int) < (t.nulls.n : Int))) true := ⟨by simpa using hlt⟩
              haveI : IdxLt i t.nulls.n := ⟨hlt⟩
              haveI : Fits .i64 ((i : Int) + 1) := Fits.i64 (by omega) (by omega)
              have hst : (t.nulls.l.take (i + 1)).flatMap (fun k : Key => k.toList) = (t.nulls.l.take i).flatMap (fun k : Key => k.toList) ++ (fun k : Key => k.toList) t.nulls.l[i]! := flat_take _ (by omega)
              have hfl := flat_len (fun k : Key => k.toList) 32 (fun x => by simp) (t.nulls.l.take (i + 1))
              rw [List.length_take] at hfl
              have hbl := (show (l1 ++ leB 1 t.nulls.n ++ t.anchor.toList).length ≤ 4100 from by have := key_len t.anchor; rw [List.length_append]; omega)
              (repeat (first | refine go ?_ | refine goR ?_ | refine goS (fun yc hyc => ?_) | refine goL (fun _ _ => inferInstance) ?_ | with_reducible intro _ | refine goO (by first | omega | (simp only [List.length_cons, List.length_nil]; omega)) ?_ | fail))
              refine loop_w (i + 1) ⟨At.to (.int .i64 ((i : Int) + 1)) (by simp), hlt, _, inferInstance, by rw [hst, el2]; simp only [List.append_assoc], ?_⟩ (by omega)
              have e : ((l1 ++ leB 1 t.nulls.n ++ t.anchor.toList) ++ (t.nulls.l.take (i + 1)).flatMap (fun k : Key => k.toList)).length ≤ 6000 := by simp only [List.length_append] at hbl ⊢; omega
              rw [hst] at e
              rw [el2]
              simpa only [List.append_assoc] using e
            · haveI : BV (decide ((i : Int) < (t.nulls.n : Int))) false := ⟨by simpa using hlt⟩
              rw [take_all (by omega)] at el2
              (repeat (first | refine go ?_ | refine goR ?_ | refine goS (fun yc hyc => ?_) | refine goL (fun _ _ => inferInstance) ?_ | with_reducible intro _ | refine goO (by first | omega | (simp only [List.length_cons, List.length_nil]; omega)) ?_ | fail))
              have hb3 : (l2 ++ leB 1 t.notes.n).length ≤ 6001 := by simp only [List.length_append, leB_len]; omega
              refine WC.loopW 2922914071681011713914803522559475445865841164560 .no (fun (i : Nat) f s => At f 8 (.int .i64 (i : Int)) ∧ i ≤ t.notes.n ∧ ∃ l, At f 4 (sv l) ∧ l = (l2 ++ leB 1 t.notes.n) ++ (t.notes.l.take i).flatMap (fun k : Key => k.toList) ∧ l.length ≤ 8000) (fun i => t.notes.n - i) 0
                ⟨At.to (.int .i64 0) rfl, Nat.zero_le _, _, inferInstance, by simp, by simp only [List.length_append, leB_len, List.length_nil, key_len]; omega⟩ ?_
              rintro i f3 s3 ha3 hs3 ⟨ai, hi, l3, a4, el3, hll3⟩
              haveI : LenLe l3 8000 := ⟨hll3⟩
              by_cases hlt : i < t.notes.n
              · haveI : BV (decide ((i : Int) < (t.notes.n : Int))) true := ⟨by simpa using hlt⟩
                haveI : IdxLt i t.notes.n := ⟨hlt⟩
                haveI : Fits .i64 ((i : Int) + 1) := Fits.i64 (by omega) (by omega)
                have hst : (t.notes.l.take (i + 1)).flatMap (fun k : Key => k.toList) = (t.notes.l.take i).flatMap (fun k : Key => k.toList) ++ (fun k : Key => k.toList) t.notes.l[i]! := flat_take _ (by omega)
                have hfl := flat_len (fun k : Key => k.toList) 32 (fun x => by simp) (t.notes.l.take (i + 1))
                rw [List.length_take] at hfl
                have hbl := hb3
                (repeat (first | refine go ?_ | refine goR ?_ | refine goS (fun yc hyc => ?_) | refine goL (fun _ _ => inferInstance) ?_ | with_reducible intro _ | refine goO (by first | omega | (simp only [List.length_cons, List.length_nil]; omega)) ?_ | fail))
                refine loop_w (i + 1) ⟨At.to (.int .i64 ((i : Int) + 1)) (by simp), hlt, _, inferInstance, by rw [hst, el3]; simp only [List.append_assoc], ?_⟩ (by omega)
                have e : ((l2 ++ leB 1 t.notes.n) ++ (t.notes.l.take (i + 1)).flatMap (fun k : Key => k.toList)).length ≤ 8000 := by simp only [List.length_append] at hbl ⊢; omega
                rw [hst] at e
                rw [el3]
                simpa only [List.append_assoc] using e
              · haveI : BV (decide ((i : Int) < (t.notes.n : Int))) false := ⟨by simpa using hlt⟩
                rw [take_all (by omega)] at el3
                (repeat (first | refine go ?_ | refine goR ?_ | refine goS (fun yc hyc => ?_) | refine goL (fun _ _ => inferInstance) ?_ | with_reducible intro _ | refine goO (by first | omega | (simp only [List.length_cons, List.length_nil]; omega)) ?_ | fail))
                exact backN (σ0 := σ) Try.results21 (fun σ' _ _ => hK2 _ σ' (by rw [el3, el2, el1, el0]; simp only [encM, h0, if_true, if_false, List.append_assoc, List.nil_append]) inferInstance)⟩
end
end Go.Proofs.Ythdhnkgnbdociaa
