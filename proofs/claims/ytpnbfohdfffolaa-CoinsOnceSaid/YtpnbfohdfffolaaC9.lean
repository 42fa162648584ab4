/- The reference's coins: Apply, Undo, by contract. No condition. -/
import Derived.Test.YtpnbfohdfffolaaC8
set_option linter.all false
set_option maxHeartbeats 40000000
set_option synthInstance.maxHeartbeats 2000000
set_option synthInstance.maxSize 100000
namespace Go.Proofs.Ytpnbfohdfffolaa
open Go Go.RowKit
theorem outsM_at {t : Tx} {id : Key} {h : UInt32} {i : Nat} (hi : i < t.outs.l.length) : (outsM t id h)[i]! = ⟨⟨id, UInt32.ofNat i⟩, t.outs.l[i]!, h, cbM t⟩ := by
  rw [getElem!_pos _ i (by rw [outsM_len]; exact hi)]
  simp [outsM]
theorem rev_at {α : Type} [Inhabited α] {xs : List α} {j : Nat} (h : j < xs.length) : xs.reverse[j]! = xs[xs.length - 1 - j]! := by
  rw [getElem!_pos _ j (by simpa using h), List.getElem_reverse, getElem!_pos _ _ (by omega)]
section
variable {σ : St} {A B : Option Addr} {n c m d b : Nat} {xs ys : List Cn} {p q : Pt} {k : Cn} {v1 v2 : Value} {t : Tx} {id : Key}
instance rule_r9_Apply [h : SL σ A n c cnE xs] [ht : EncV σ txE v1 t] {hh : Int} {hu : UInt32} [hq : U32 hh hu] {r : List Cn × List Cn × Int} [q1 : Is (applyR xs t id hu) r] {zs sp : List Cn} {ee : Int} [q2 : OptA r zs sp ee] :
    CallRule Try.prog 19 [.slice A n c, v1, .agg (kc id), .int .u32 hh] σ (fun K _ => (n + t.ins.n + t.outs.n ≤ 1000000000) ∧ ∀ σ' A' c' B' d', Nx σ σ' .no → SL σ' A' zs.length c' cnE zs → SL σ' B' sp.length d' cnE sp → K (.tuple #[.slice A' zs.length c', .slice B' sp.length d', .int .i64 ee]) σ') := ⟨fun K E hK => by
  obtain ⟨hn, hK⟩ := hK
  have hqq := q1.eq; subst hqq
  obtain ⟨hqq, hqq2, hqq3⟩ := q2.eq
  subst hqq; subst hqq2; subst hqq3
  have e1 : v1 = .agg (cats [#[.int .u32 (t.exp.toNat : Int)], #[.slice t.ins.A t.ins.n t.ins.c], #[.slice t.outs.A t.outs.n t.outs.c], kc t.anchor, #[.slice t.nulls.A t.nulls.n t.nulls.c], #[.slice t.notes.A t.notes.n t.notes.c], #[.int .i64 t.bal.toInt]]) := ht.eq
  subst e1
  have e2 := hq.eq
  subst e2
  haveI : OkE σ txE t := ⟨ht.ok⟩
  have hl := h.len
  have hil := (inferInstance : SL σ t.ins.A t.ins.n t.ins.c ptE t.ins.l).len
  have hol := (inferInstance : SL σ t.outs.A t.outs.n t.outs.c otE t.outs.l).len
  refine calls_enter Try.func19 rfl _ Try.ntmps19 rfl ?_
  (repeat (first | refine go ?_ | refine goR ?_ | refine goS (fun yc hyc => ?_) | refine goL (fun _ _ => inferInstance) ?_ | with_reducible intro _ | refine goO (by first | omega | (simp only [List.length_cons, List.length_nil]; omega)) ?_ | fail))
  rename Option Addr => B0
  rename St => s0
  -- what is behind the first loop
  refine WC.cutB 576460752302403329 (.row B0 65) (fun f s => ∃ A1 c1 zs B1 m1 d1 sp, At f 0 (.slice A1 zs.length c1) ∧ SL s A1 zs.length c1 cnE zs ∧ At f 11 (.slice B1 m1 d1) ∧ Row s B1 m1 d1 65 cnE sp ∧ RowNew s0 B0 B1 ∧ spentM xs t hu = some (zs, sp) ∧ zs.length ≤ n) ?_ ?_
  · cases hcb : cbM t with
    | true =>
      haveI : BV (cbM t) true := ⟨hcb⟩
      have hsp : spentM xs t hu = some (xs, []) := by unfold spentM; rw [hcb]; rfl
      refine WC.loopW 576460752302403329 (.row B0 65) (fun (i : Unit) f s => At f 13 (.int .i64 0) ∧ At f 0 (.slice A n c) ∧ At f 11 (.slice B0 0 0) ∧ Row s B0 0 0 65 cnE []) (fun i => 0) ()
        ⟨inferInstance, inferInstance, inferInstance, inferInstance⟩ ?_
      rintro i f s ha hs ⟨a13, a0, a11, hr⟩
      by_cases h0 : 0 < t.ins.n
      · haveI : BV (decide ((0 : Int) < (t.ins.n : Int))) true := ⟨by simpa using h0⟩
        (repeat (first | refine go ?_ | refine goR ?_ | refine goS (fun yc hyc => ?_) | refine goL (fun _ _ => inferInstance) ?_ | with_reducible intro _ | refine goO (by first | omega | (simp only [List.length_cons, List.length_nil]; omega)) ?_ | fail))
        exact ⟨rfl, (inferInstance : AgreeG _ _ _).h, Sx.nx inferInstance, A, c, xs, B0, 0, 0, [], by rw [hl]; infer_instance, by rw [hl]; infer_instance, inferInstance, inferInstance, Gr.rn inferInstance, hsp, by omega⟩
      · haveI : BV (decide ((0 : Int) < (t.ins.n : Int))) false := ⟨by simpa using h0⟩
        (repeat (first | refine go ?_ | refine goR ?_ | refine goS (fun yc hyc => ?_) | refine goL (fun _ _ => inferInstance) ?_ | with_reducible intro _ | refine goO (by first | omega | (simp only [List.length_cons, List.length_nil]; omega)) ?_ | fail))
        exact ⟨rfl, (inferInstance : AgreeG _ _ _).h, Sx.nx inferInstance, A, c, xs, B0, 0, 0, [], by rw [hl]; infer_instance, by rw [hl]; infer_instance, inferInstance, inferInstance, Gr.rn inferInstance, hsp, by omega⟩
    | false =>
      haveI : BV (cbM t) false := ⟨hcb⟩
      have hsp : spentM xs t hu = takesM (fun k => ripe k hu) xs t.ins.l := by unfold spentM; rw [hcb]; rfl
      refine WC.loopW 576460752302403329 (.row B0 65) (fun (i : Nat) f s => At f 13 (.int .i64 (i : Int)) ∧ i ≤ t.ins.n ∧ ∃ A1 c1 zs B1 m1 d1 sp, At f 0 (.slice A1 zs.length c1) ∧ SL s A1 zs.length c1 cnE zs ∧ At f 11 (.slice B1 m1 d1) ∧ Row s B1 m1 d1 65 cnE sp ∧ RowNew s0 B0 B1 ∧ takesM (fun k => ripe k hu) xs (t.ins.l.take i) = some (zs, sp) ∧ zs.length ≤ n ∧ m1 ≤ i) (fun i => t.ins.n - i) 0
        ⟨At.to (.int .i64 0) rfl, Nat.zero_le _, A, c, xs, B0, 0, 0, [], by rw [hl]; infer_instance, by rw [hl]; infer_instance, inferInstance, inferInstance, Gr.rn inferInstance, by rw [List.take_zero]; rfl, by omega, Nat.le_refl _⟩ ?_
      rintro i f s ha hs ⟨a13, hi, A1, c1, zs, B1, m1, d1, sp, a0, hr, a11, hrs, hrn, htk, hzl, hspl⟩
      by_cases hlt : i < t.ins.n
      · haveI : BV (decide ((i : Int) < (t.ins.n : Int))) true := ⟨by simpa using hlt⟩
        haveI : IdxLt i t.ins.n := ⟨hlt⟩
        haveI : Fits .i64 ((i : Int) + 1) := Fits.i64 (by omega) (by omega)
        have hst : takesM (fun k => ripe k hu) xs (t.ins.l.take (i + 1)) = (takeM zs t.ins.l[i]! fun k => ripe k hu).map fun r => (r.2, sp ++ [r.1]) := by
          rw [take_snoc (by omega), takesM_snoc, htk]; rfl
        have hte : takeM zs t.ins.l[i]! (fun k => ripe k hu) = match placeC zs t.ins.l[i]! with
          | none => none
          | some i => if ripe zs[i]! hu then some (zs[i]!, zs.take i ++ zs.drop (i + 1)) else none := rfl
        cases hp : placeC zs t.ins.l[i]! with
        | none =>
          haveI : Is (placeC zs t.ins.l[i]!) none := ⟨hp⟩
          haveI : BV (decide ((-1 : Int) < 0)) true := ⟨by simp⟩
          rw [hte, hp] at hst
          have hnone := takesM_pre hst
          have e : applyR xs t id hu = ([], [], 160) := by unfold applyR; rw [hsp, hnone]
          rw [e] at hK
          (repeat (first | refine go ?_ | refine goR ?_ | refine goS (fun yc hyc => ?_) | refine goL (fun _ _ => inferInstance) ?_ | with_reducible intro _ | refine goO (by first | omega | (simp only [List.length_cons, List.length_nil]; omega)) ?_ | fail))
          exact backN (σ0 := σ) Try.results19 (fun σ' _ _ => hK σ' none 0 none 0 inferInstance SL.nil_ SL.nil_)
        | some u =>
          have hul := findIdx_lt hp
          haveI : Is (placeC zs t.ins.l[i]!) (some u) := ⟨hp⟩
          haveI : BV (decide ((u : Int) < 0)) false := ⟨by simp⟩
          haveI : IdxLt u zs.length := ⟨hul⟩
          cases hpr : ripe zs[u]! hu with
          | false =>
            haveI : BV (ripe zs[u]! hu) false := ⟨hpr⟩
            rw [hte, hp] at hst
            simp only [hpr, Bool.false_eq_true, if_false, Option.map_none] at hst
            have hnone := takesM_pre hst
            have e : applyR xs t id hu = ([], [], 160) := by unfold applyR; rw [hsp, hnone]
            rw [e] at hK
            (repeat (first | refine go ?_ | refine goR ?_ | refine goS (fun yc hyc => ?_) | refine goL (fun _ _ => inferInstance) ?_ | with_reducible intro _ | refine goO (by first | omega | (simp only [List.length_cons, List.length_nil]; omega)) ?_ | fail))
            exact backN (σ0 := σ) Try.results19 (fun σ' _ _ => hK σ' none 0 none 0 inferInstance SL.nil_ SL.nil_)
          | true =>
            haveI : BV (ripe zs[u]! hu) true := ⟨hpr⟩
            rw [hte, hp] at hst
            simp only [hpr, if_true, Option.map_some] at hst
            (repeat (first | refine go ?_ | refine goR ?_ | refine goS (fun yc hyc => ?_) | refine goL (fun _ _ => inferInstance) ?_ | with_reducible intro _ | refine goO (by first | omega | (simp only [List.length_cons, List.length_nil]; omega)) ?_ | fail))
            exact loop_w (i + 1) ⟨At.to (.int .i64 ((i : Int) + 1)) (by simp), hlt, _, _, zs.take u ++ zs.drop (u + 1), _, _, _, sp ++ [zs[u]!], inferInstance, inferInstance, inferInstance, inferInstance, Gr.rn inferInstance, hst, by simp; omega, by omega⟩ (by omega)
      · haveI : BV (decide ((i : Int) < (t.ins.n : Int))) false := ⟨by simpa using hlt⟩
        rw [take_all (by omega)] at htk
        (repeat (first | refine go ?_ | refine goR ?_ | refine goS (fun yc hyc => ?_) | refine goL (fun _ _ => inferInstance) ?_ | with_reducible intro _ | refine goO (by first | omega | (simp only [List.length_cons, List.length_nil]; omega)) ?_ | fail))
        exact ⟨rfl, (inferInstance : AgreeG _ _ _).h, Sx.nx inferInstance, A1, c1, zs, B1, m1, d1, sp, inferInstance, inferInstance, inferInstance, inferInstance, hrn, hsp.trans htk, hzl⟩
  · rintro f s ha hs ⟨A1, c1, zs, B1, m1, d1, sp, a0, hr, a11, hrs, hrn, hsp, hzl⟩
    have hml := hrs.len
    subst hml
    (repeat (first | refine go ?_ | refine goR ?_ | refine goS (fun yc hyc => ?_) | refine goL (fun _ _ => inferInstance) ?_ | with_reducible intro _ | refine goO (by first | omega | (simp only [List.length_cons, List.length_nil]; omega)) ?_ | fail))
    rename St => s2
    refine WC.loopW 38685625651207381287274241 .no (fun (i : Nat) f s => At f 15 (.int .i64 (i : Int)) ∧ i ≤ t.outs.n ∧ ∃ A1 c1 us, At f 0 (.slice A1 us.length c1) ∧ SL s A1 us.length c1 cnE us ∧ foldA putC zs ((outsM t id hu).take i) = some us ∧ us.length ≤ n + i) (fun i => t.outs.n - i) 0
      ⟨At.to (.int .i64 0) rfl, Nat.zero_le _, A1, c1, zs, inferInstance, inferInstance, by rw [List.take_zero]; rfl, by omega⟩ ?_
    rintro i f s ha2 hs2 ⟨a15, hi, A2, c2, us, a0', hr2, hf, hul⟩
    by_cases hlt : i < t.outs.n
    · haveI : BV (decide ((i : Int) < (t.outs.n : Int))) true := ⟨by simpa using hlt⟩
      haveI : IdxLt i t.outs.n := ⟨hlt⟩
      haveI : Fits .i64 ((i : Int) + 1) := Fits.i64 (by omega) (by omega)
      haveI : Fits .u32 (i : Int) := Fits.u32 (by omega) (by omega)
      have hst : foldA putC zs ((outsM t id hu).take (i + 1)) = putC us ⟨⟨id, UInt32.ofNat i⟩, t.outs.l[i]!, hu, cbM t⟩ := by
        rw [take_snoc (by rw [outsM_len]; omega), foldA_snoc, hf, outsM_at (by omega)]; rfl
      cases hp : placeC us ⟨id, UInt32.ofNat i⟩ with
      | some u =>
        haveI : Is (placeC us ⟨id, UInt32.ofNat i⟩) (some u) := ⟨hp⟩
        haveI : BV (decide (0 ≤ (u : Int))) true := ⟨by simp⟩
        rw [putC_some (i := u) hp] at hst
        have hnone := foldA_pre hst
        have e : applyR xs t id hu = ([], [], 4) := by unfold applyR; rw [hsp]; simp only [hnone]
        rw [e] at hK
        (repeat (first | refine go ?_ | refine goR ?_ | refine goS (fun yc hyc => ?_) | refine goL (fun _ _ => inferInstance) ?_ | with_reducible intro _ | refine goO (by first | omega | (simp only [List.length_cons, List.length_nil]; omega)) ?_ | fail))
        exact backN (σ0 := σ) Try.results19 (fun σ' _ _ => hK σ' none 0 none 0 inferInstance SL.nil_ SL.nil_)
      | none =>
        haveI : Is (placeC us ⟨id, UInt32.ofNat i⟩) none := ⟨hp⟩
        haveI : BV (decide (0 ≤ (-1 : Int))) false := ⟨by simp⟩
        rw [putC_none hp] at hst
        have hcl := cput_len us ⟨⟨id, UInt32.ofNat i⟩, t.outs.l[i]!, hu, cbM t⟩
        (repeat (first | refine go ?_ | refine goR ?_ | refine goS (fun yc hyc => ?_) | refine goL (fun _ _ => inferInstance) ?_ | with_reducible intro _ | refine goO (by first | omega | (simp only [List.length_cons, List.length_nil]; omega)) ?_ | fail))
        refine WC.draw [] (.p 0 (.l 1 (.l 2 (.l 3 (.p 4 (.l 5 (.l 6 (.p 7 (.p 8 (.l 9 (.h 10 (.p 11 .nil)))))))))))) mixed (by decide +kernel) ?_
        (repeat (first | refine go ?_ | refine goR ?_ | refine goS (fun yc hyc => ?_) | refine goL (fun _ _ => inferInstance) ?_ | with_reducible intro _ | refine goO (by first | omega | (simp only [List.length_cons, List.length_nil]; omega)) ?_ | fail))
        exact loop_w (i + 1) ⟨At.to (.int .i64 ((i : Int) + 1)) (by simp), hlt, _, _, cput us ⟨⟨id, UInt32.ofNat i⟩, t.outs.l[i]!, hu, cbM t⟩, inferInstance, inferInstance, hst, by omega⟩ (by omega)
    · haveI : BV (decide ((i : Int) < (t.outs.n : Int))) false := ⟨by simpa using hlt⟩
      rw [take_all (by rw [outsM_len]; omega)] at hf
      have e : applyR xs t id hu = (us, sp, 0) := by unfold applyR; rw [hsp]; simp only [hf]
      rw [e] at hK
      (repeat (first | refine go ?_ | refine goR ?_ | refine goS (fun yc hyc => ?_) | refine goL (fun _ _ => inferInstance) ?_ | with_reducible intro _ | refine goO (by first | omega | (simp only [List.length_cons, List.length_nil]; omega)) ?_ | fail))
      exact backN (σ0 := σ) Try.results19 (fun σ' _ _ => hK σ' _ _ _ _ inferInstance inferInstance inferInstance)⟩
instance rule_r9_Undo [h : SL σ A n c cnE xs] [ht : EncV σ txE v1 t] [g : SL σ B m d cnE ys] {r : List Cn × Int} [q1 : Is (undoR xs t id ys) r] {zs : List Cn} {ee : Int} [q2 : OptU r zs ee] :
    CallRule Try.prog 20 [.slice A n c, v1, .agg (kc id), .slice B m d] σ (fun K _ => (n + m + t.outs.n ≤ 1000000000) ∧ ∀ σ' A' c', Nx σ σ' .no → SL σ' A' zs.length c' cnE zs → K (.tuple #[.slice A' zs.length c', .int .i64 ee]) σ') := ⟨fun K E hK => by
  obtain ⟨hn, hK⟩ := hK
  have hqq := q1.eq; subst hqq
  obtain ⟨hqq, hqq2⟩ := q2.eq
  subst hqq; subst hqq2
  have e1 : v1 = .agg (cats [#[.int .u32 (t.exp.toNat : Int)], #[.slice t.ins.A t.ins.n t.ins.c], #[.slice t.outs.A t.outs.n t.outs.c], kc t.anchor, #[.slice t.nulls.A t.nulls.n t.nulls.c], #[.slice t.notes.A t.notes.n t.notes.c], #[.int .i64 t.bal.toInt]]) := ht.eq
  subst e1
  haveI : OkE σ txE t := ⟨ht.ok⟩
  have hl := h.len
  have gl := g.len
  have hol := (inferInstance : SL σ t.outs.A t.outs.n t.outs.c otE t.outs.l).len
  have hrl : (outsM t id 0).reverse.length = t.outs.n := by rw [List.length_reverse, outsM_len, hol]
  haveI : Fits .i64 ((t.outs.n : Int) - 1) := Fits.i64 (by omega) (by omega)
  haveI : Fits .i64 ((m : Int) - 1) := Fits.i64 (by omega) (by omega)
  refine calls_enter Try.func20 rfl _ Try.ntmps20 rfl ?_
  (repeat (first | refine go ?_ | refine goR ?_ | refine goS (fun yc hyc => ?_) | refine goL (fun _ _ => inferInstance) ?_ | with_reducible intro _ | refine goO (by first | omega | (simp only [List.length_cons, List.length_nil]; omega)) ?_ | fail))
  rename St => s0
  refine WC.cutB 4294840065 .no (fun f s => ∃ A1 c1 us, At f 0 (.slice A1 us.length c1) ∧ SL s A1 us.length c1 cnE us ∧ foldA goneM xs (outsM t id 0).reverse = some us ∧ us.length ≤ n) ?_ ?_
  · refine WC.loopW 4294840065 .no (fun (j : Nat) f s => At f 10 (.int .i64 ((t.outs.n : Int) - 1 - j)) ∧ j ≤ t.outs.n ∧ ∃ A1 c1 us, At f 0 (.slice A1 us.length c1) ∧ SL s A1 us.length c1 cnE us ∧ foldA goneM xs ((outsM t id 0).reverse.take j) = some us ∧ us.length ≤ n) (fun j => t.outs.n - j) 0
      ⟨At.to (.int .i64 ((t.outs.n : Int) - 1)) (by simp), Nat.zero_le _, A, c, xs, by rw [hl]; infer_instance, by rw [hl]; infer_instance, by rw [List.take_zero]; rfl, by omega⟩ ?_
    rintro j f s ha hs ⟨a10, hj, A1, c1, us, a0, hr, hf, hul⟩
    by_cases hlt : j < t.outs.n
    · obtain ⟨i, hi⟩ : ∃ i : Nat, (i : Int) = (t.outs.n : Int) - 1 - j := ⟨t.outs.n - 1 - j, by omega⟩
      rw [← hi] at a10
      haveI : BV (decide (0 ≤ (i : Int))) true := ⟨by simp⟩
      haveI : Fits .i64 ((i : Int) - 1) := Fits.i64 (by omega) (by omega)
      haveI : Fits .u32 (i : Int) := Fits.u32 (by omega) (by omega)
      have hat : (outsM t id 0).reverse[j]!.at_ = ⟨id, UInt32.ofNat i⟩ := by
        rw [rev_at (by rw [outsM_len]; omega), outsM_len, show t.outs.l.length - 1 - j = i by omega, outsM_at (by omega)]
      have hst : foldA goneM xs ((outsM t id 0).reverse.take (j + 1)) = (takeM us ⟨id, UInt32.ofNat i⟩ fun _ => true).map (·.2) := by
        rw [take_snoc (by omega), foldA_snoc, hf]
        show goneM us _ = _
        unfold goneM; rw [hat]
      have hte : takeM us ⟨id, UInt32.ofNat i⟩ (fun _ => true) = match placeC us ⟨id, UInt32.ofNat i⟩ with
        | none => none
        | some i => some (us[i]!, us.take i ++ us.drop (i + 1)) := by unfold takeM; cases placeC us ⟨id, UInt32.ofNat i⟩ <;> rfl
      cases hp : placeC us ⟨id, UInt32.ofNat i⟩ with
      | none =>
        haveI : Is (placeC us ⟨id, UInt32.ofNat i⟩) none := ⟨hp⟩
        haveI : BV (decide ((-1 : Int) < 0)) true := ⟨by simp⟩
        rw [hte, hp] at hst
        have hnone := foldA_pre hst
        have e : undoR xs t id ys = ([], 3) := by unfold undoR; rw [hnone]
        rw [e] at hK
        (repeat (first | refine go ?_ | refine goR ?_ | refine goS (fun yc hyc => ?_) | refine goL (fun _ _ => inferInstance) ?_ | with_reducible intro _ | refine goO (by first | omega | (simp only [List.length_cons, List.length_nil]; omega)) ?_ | fail))
        exact backN (σ0 := σ) Try.results20 (fun σ' _ _ => hK σ' none 0 inferInstance SL.nil_)
      | some u =>
        have hul2 := findIdx_lt hp
        haveI : Is (placeC us ⟨id, UInt32.ofNat i⟩) (some u) := ⟨hp⟩
        haveI : BV (decide ((u : Int) < 0)) false := ⟨by simp⟩
        haveI : IdxLt u us.length := ⟨hul2⟩
        rw [hte, hp] at hst
        (repeat (first | refine go ?_ | refine goR ?_ | refine goS (fun yc hyc => ?_) | refine goL (fun _ _ => inferInstance) ?_ | with_reducible intro _ | refine goO (by first | omega | (simp only [List.length_cons, List.length_nil]; omega)) ?_ | fail))
        exact loop_w (j + 1) ⟨At.to (.int .i64 ((i : Int) - 1)) (by simp; omega), by omega, _, _, us.take u ++ us.drop (u + 1), inferInstance, inferInstance, hst, by simp; omega⟩ (by omega)
    · haveI : BV (decide (0 ≤ (t.outs.n : Int) - 1 - (j : Int))) false := ⟨by simp; omega⟩
      rw [take_all (by omega)] at hf
      (repeat (first | refine go ?_ | refine goR ?_ | refine goS (fun yc hyc => ?_) | refine goL (fun _ _ => inferInstance) ?_ | with_reducible intro _ | refine goO (by first | omega | (simp only [List.length_cons, List.length_nil]; omega)) ?_ | fail))
      exact ⟨rfl, (inferInstance : AgreeG _ _ _).h, Sx.nx inferInstance, A1, c1, us, inferInstance, inferInstance, hf, hul⟩
  · rintro f s ha hs ⟨A1, c1, zs, a0, hr, hfz, hzl⟩
    (repeat (first | refine go ?_ | refine goR ?_ | refine goS (fun yc hyc => ?_) | refine goL (fun _ _ => inferInstance) ?_ | with_reducible intro _ | refine goO (by first | omega | (simp only [List.length_cons, List.length_nil]; omega)) ?_ | fail))
    rename St => s2
    refine WC.loopW 9007164895007489 .no (fun (j : Nat) f s => At f 12 (.int .i64 ((m : Int) - 1 - j)) ∧ j ≤ m ∧ ∃ A1 c1 us, At f 0 (.slice A1 us.length c1) ∧ SL s A1 us.length c1 cnE us ∧ foldA putC zs (ys.reverse.take j) = some us ∧ us.length ≤ n + j) (fun j => m - j) 0
      ⟨At.to (.int .i64 ((m : Int) - 1)) (by simp), Nat.zero_le _, A1, c1, zs, inferInstance, inferInstance, by rw [List.take_zero]; rfl, by omega⟩ ?_
    rintro j f s ha2 hs2 ⟨a12, hj, A2, c2, us, a0', hr2, hf, hul⟩
    by_cases hlt : j < m
    · obtain ⟨i, hi⟩ : ∃ i : Nat, (i : Int) = (m : Int) - 1 - j := ⟨m - 1 - j, by omega⟩
      rw [← hi] at a12
      haveI : BV (decide (0 ≤ (i : Int))) true := ⟨by simp⟩
      haveI : IdxLt i m := ⟨by omega⟩
      haveI : Fits .i64 ((i : Int) - 1) := Fits.i64 (by omega) (by omega)
      have hst : foldA putC zs (ys.reverse.take (j + 1)) = putC us ys[i]! := by
        rw [take_snoc (by simp; omega), foldA_snoc, hf, rev_at (by omega), show ys.length - 1 - j = i by omega]; rfl
      cases hp : placeC us ys[i]!.at_ with
      | some u =>
        haveI : Is (placeC us ys[i]!.at_) (some u) := ⟨hp⟩
        haveI : BV (decide (0 ≤ (u : Int))) true := ⟨by simp⟩
        rw [putC_some (i := u) hp] at hst
        have hnone := foldA_pre hst
        have e : undoR xs t id ys = ([], 4) := by unfold undoR; rw [hfz]; simp only [hnone]
        rw [e] at hK
        (repeat (first | refine go ?_ | refine goR ?_ | refine goS (fun yc hyc => ?_) | refine goL (fun _ _ => inferInstance) ?_ | with_reducible intro _ | refine goO (by first | omega | (simp only [List.length_cons, List.length_nil]; omega)) ?_ | fail))
        exact backN (σ0 := σ) Try.results20 (fun σ' _ _ => hK σ' none 0 inferInstance SL.nil_)
      | none =>
        haveI : Is (placeC us ys[i]!.at_) none := ⟨hp⟩
        haveI : BV (decide (0 ≤ (-1 : Int))) false := ⟨by simp⟩
        rw [putC_none hp] at hst
        have hcl := cput_len us ys[i]!
        (repeat (first | refine go ?_ | refine goR ?_ | refine goS (fun yc hyc => ?_) | refine goL (fun _ _ => inferInstance) ?_ | with_reducible intro _ | refine goO (by first | omega | (simp only [List.length_cons, List.length_nil]; omega)) ?_ | fail))
        exact loop_w (j + 1) ⟨At.to (.int .i64 ((i : Int) - 1)) (by simp; omega), hlt, _, _, cput us ys[i]!, inferInstance, inferInstance, hst, by omega⟩ (by omega)
    · haveI : BV (decide (0 ≤ (m : Int) - 1 - (j : Int))) false := ⟨by simp; omega⟩
      rw [take_all (by simp; omega)] at hf
      have e : undoR xs t id ys = (us, 0) := by unfold undoR; rw [hfz]; simp only [hf]
      rw [e] at hK
      (repeat (first | refine go ?_ | refine goR ?_ | refine goS (fun yc hyc => ?_) | refine goL (fun _ _ => inferInstance) ?_ | with_reducible intro _ | refine goO (by first | omega | (simp only [List.length_cons, List.length_nil]; omega)) ?_ | fail))
      exact backN (σ0 := σ) Try.results20 (fun σ' _ _ => hK σ' _ _ inferInstance inferInstance)⟩
end
end Go.Proofs.Ytpnbfohdfffolaa
