/- coins: Apply, Undo, by contract. No condition. -/
import Derived.Test.YtpnbfohdfffolaaC4
set_option linter.all false
set_option maxHeartbeats 40000000
set_option synthInstance.maxHeartbeats 2000000
set_option synthInstance.maxSize 100000
namespace Go.Proofs.Ytpnbfohdfffolaa
open Go Go.RowKit
section
variable {σ : St} {A B : Option Addr} {n c m d b : Nat} {xs ys : List Cn} {p q : Pt} {k : Cn} {v1 v2 : Value} {t : Tx} {id : Key}
instance rule_Apply [h0 : SLq σ A n c cnE xs] [ht : EncV σ txE v1 t] {hh : Int} {hu : UInt32} [hq : U32 hh hu] {r : List Cn × List Cn × Int} [q1 : Is (applyR xs t id hu) r] {zs sp : List Cn} {ee : Int} [q2 : OptA r zs sp ee] :
    CallRule Try.prog 9 [.slice A n c, v1, .agg (kc id), .int .u32 hh] σ (fun K _ => (n + t.ins.n + t.outs.n ≤ 1000000000) ∧ ∀ σ' A' c' B' d', Nx σ σ' .no → SL σ' A' zs.length c' cnE zs → SL σ' B' sp.length d' cnE sp → K (.tuple #[.slice A' zs.length c', .slice B' sp.length d', .int .i64 ee]) σ') := ⟨fun K E hK => by
  haveI h := h0.sl
  obtain ⟨hn, hK⟩ := hK
  have hqq := q1.eq; subst hqq
  obtain ⟨hqq, hqq2, hqq3⟩ := q2.eq
  subst hqq; subst hqq2; subst hqq3
  have e1 : v1 = .agg (cats [#[.int .u32 (t.exp.toNat : Int)], #[.slice t.ins.A t.ins.n t.ins.c], #[.slice t.outs.A t.outs.n t.outs.c], kc t.anchor, #[.slice t.nulls.A t.nulls.n t.nulls.c], #[.slice t.notes.A t.notes.n t.notes.c], #[.int .i64 t.bal.toInt]]) := ht.eq
  subst e1
  have e2 := hq.eq
  subst e2
  haveI : OkE σ txE t := ⟨ht.ok⟩
  have hl := h.len
  have hil := (inferInstance : SL σ t.ins.A t.ins.n t.ins.c ptE t.ins.l).len
  have hol := (inferInstance : SL σ t.outs.A t.outs.n t.outs.c otE t.outs.l).len
  cases hcb : cbM t with
  | true =>
    haveI : BV (cbM t) true := ⟨hcb⟩
    have hsp : spentM xs t hu = some (xs, []) := by unfold spentM; rw [hcb]; rfl
    cases hf : foldA putC xs (outsM t id hu) with
    | none =>
      haveI : Is (foldA putC xs (outsM t id hu)) none := ⟨hf⟩
      have e : applyR xs t id hu = ([], [], 4) := by unfold applyR; rw [hsp]; simp only [hf]
      rw [e] at hK
      refine calls_enter Try.func9 rfl _ Try.ntmps9 rfl ?_
      (repeat (first | refine go ?_ | refine goR ?_ | refine goS (fun yc hyc => ?_) | refine goL (fun _ _ => inferInstance) ?_ | with_reducible intro _ | refine goO (by first | omega | (simp only [List.length_cons, List.length_nil]; omega)) ?_ | fail))
      exact backN (σ0 := σ) Try.results9 (fun σ' _ _ => hK σ' none 0 none 0 inferInstance SL.nil_ SL.nil_)
    | some us =>
      haveI : Is (foldA putC xs (outsM t id hu)) (some us) := ⟨hf⟩
      have e : applyR xs t id hu = (us, [], 0) := by unfold applyR; rw [hsp]; simp only [hf]
      rw [e] at hK
      refine calls_enter Try.func9 rfl _ Try.ntmps9 rfl ?_
      (repeat (first | refine go ?_ | refine goR ?_ | refine goS (fun yc hyc => ?_) | refine goL (fun _ _ => inferInstance) ?_ | with_reducible intro _ | refine goO (by first | omega | (simp only [List.length_cons, List.length_nil]; omega)) ?_ | fail))
      exact backN (σ0 := σ) Try.results9 (fun σ' _ _ => hK σ' _ _ none 0 inferInstance inferInstance SL.nil_)
  | false =>
    haveI : BV (cbM t) false := ⟨hcb⟩
    have hsp : spentM xs t hu = takesM (fun k => ripe k hu) xs t.ins.l := by unfold spentM; rw [hcb]; rfl
    refine calls_enter Try.func9 rfl _ Try.ntmps9 rfl ?_
    (repeat (first | refine go ?_ | refine goR ?_ | refine goS (fun yc hyc => ?_) | refine goL (fun _ _ => inferInstance) ?_ | with_reducible intro _ | refine goO (by first | omega | (simp only [List.length_cons, List.length_nil]; omega)) ?_ | fail))
    rename Option Addr => A0
    rename St => s0
    rename Nat => b0
    refine WC.loopW 8796059588352 (setX A0 b0) (fun (i : Nat) f s => At f 25 (.int .i64 (i : Int)) ∧ i ≤ t.ins.n ∧ ∃ A1 c1 zs B1 d1 sp, Own s b0 78 (cats [#[.slice A1 zs.length c1]]) ∧ Row s A1 zs.length c1 40 cnE zs ∧ RowNew s0 A0 A1 ∧
      At f 12 (.slice B1 sp.length d1) ∧ Row s B1 sp.length d1 40 cnE sp ∧ RowNew s0 none B1 ∧ NeAA A1 B1 ∧ NeAA B1 A1 ∧ takesM (fun k => ripe k hu) xs (t.ins.l.take i) = some (zs, sp) ∧ zs.length ≤ n ∧ sp.length ≤ i) (fun i => t.ins.n - i) 0
      ⟨At.to (.int .i64 0) rfl, Nat.zero_le _, A0, n, xs, none, 0, [], by rw [hl]; infer_instance, by rw [hl]; infer_instance, Gr.rn inferInstance, At.to (.slice none 0 0) rfl, Row.nil_, ⟨nofun⟩, inferInstance, inferInstance, by rw [List.take_zero]; rfl, by omega, Nat.le_refl _⟩ ?_
    rintro i f s ha hs ⟨a25, hi, A1, c1, zs, B1, d1, sp, ho, hr, hrn, a12, hrs, hrn2, hne, hne', htk, hzl, hspl⟩
    by_cases hlt : i < t.ins.n
    · haveI : BV (decide ((i : Int) < (t.ins.n : Int))) true := ⟨by simpa using hlt⟩
      haveI : IdxLt i t.ins.n := ⟨hlt⟩
      haveI : Fits .i64 ((i : Int) + 1) := Fits.i64 (by omega) (by omega)
      have hst : takesM (fun k => ripe k hu) xs (t.ins.l.take (i + 1)) = (takeM zs t.ins.l[i]! fun k => ripe k hu).map fun r => (r.2, sp ++ [r.1]) := by
        rw [take_snoc (by omega), takesM_snoc, htk]; rfl
      cases htm : takeM zs t.ins.l[i]! (fun k => ripe k hu) with
      | none =>
        haveI : Is (takeM zs t.ins.l[i]! (fun k => ripe k hu)) none := ⟨htm⟩
        rw [htm] at hst
        have hnone := takesM_pre hst
        have e : applyR xs t id hu = ([], [], 160) := by unfold applyR; rw [hsp, hnone]
        rw [e] at hK
        (repeat (first | refine go ?_ | refine goR ?_ | refine goS (fun yc hyc => ?_) | refine goL (fun _ _ => inferInstance) ?_ | with_reducible intro _ | refine goO (by first | omega | (simp only [List.length_cons, List.length_nil]; omega)) ?_ | fail))
        exact backN (σ0 := σ) Try.results9 (fun σ' _ _ => hK σ' none 0 none 0 inferInstance SL.nil_ SL.nil_)
      | some r =>
        obtain ⟨kk, us⟩ := r
        haveI : Is (takeM zs t.ins.l[i]! (fun k => ripe k hu)) (some (kk, us)) := ⟨htm⟩
        rw [htm] at hst
        have hul := takeM_len htm
        (repeat (first | refine go ?_ | refine goR ?_ | refine goS (fun yc hyc => ?_) | refine goL (fun _ _ => inferInstance) ?_ | with_reducible intro _ | refine goO (by first | omega | (simp only [List.length_cons, List.length_nil]; omega)) ?_ | fail))
        rename Option Addr => B2
        rename Nat => d2
        exact loop_w (i + 1) ⟨At.to (.int .i64 ((i : Int) + 1)) (by simp), hlt, _, _, us, B2, d2, sp ++ [kk], inferInstance, inferInstance, Gr.rn inferInstance, At.to (.slice B2 (sp.length + 1) d2) (by simp), by simp only [List.length_append, List.length_cons, List.length_nil, Nat.zero_add]; infer_instance, Gr.rn inferInstance, inferInstance, inferInstance, hst, by omega, by simp; omega⟩ (by omega)
    · haveI : BV (decide ((i : Int) < (t.ins.n : Int))) false := ⟨by simpa using hlt⟩
      rw [take_all (by omega)] at htk
      have hsp2 := hsp.trans htk
      cases hf : foldA putC zs (outsM t id hu) with
      | none =>
        haveI : Is (foldA putC zs (outsM t id hu)) none := ⟨hf⟩
        have e : applyR xs t id hu = ([], [], 4) := by unfold applyR; rw [hsp2]; simp only [hf]
        rw [e] at hK
        (repeat (first | refine go ?_ | refine goR ?_ | refine goS (fun yc hyc => ?_) | refine goL (fun _ _ => inferInstance) ?_ | with_reducible intro _ | refine goO (by first | omega | (simp only [List.length_cons, List.length_nil]; omega)) ?_ | fail))
        exact backN (σ0 := σ) Try.results9 (fun σ' _ _ => hK σ' none 0 none 0 inferInstance SL.nil_ SL.nil_)
      | some us =>
        haveI : Is (foldA putC zs (outsM t id hu)) (some us) := ⟨hf⟩
        have e : applyR xs t id hu = (us, sp, 0) := by unfold applyR; rw [hsp2]; simp only [hf]
        rw [e] at hK
        (repeat (first | refine go ?_ | refine goR ?_ | refine goS (fun yc hyc => ?_) | refine goL (fun _ _ => inferInstance) ?_ | with_reducible intro _ | refine goO (by first | omega | (simp only [List.length_cons, List.length_nil]; omega)) ?_ | fail))
        exact backN (σ0 := σ) Try.results9 (fun σ' _ _ => hK σ' _ _ _ _ inferInstance inferInstance inferInstance)⟩
instance rule_coins_Undo [h0 : SLq σ A n c cnE xs] [ht : EncV σ txE v1 t] [g0 : SLq σ B m d cnE ys] {r : List Cn × Int} [q1 : Is (undoR xs t id ys) r] {zs : List Cn} {ee : Int} [q2 : OptU r zs ee] :
    CallRule Try.prog 15 [.slice A n c, v1, .agg (kc id), .slice B m d] σ (fun K _ => (n + m + t.outs.n ≤ 1000000000) ∧ ∀ σ' A' c', Nx σ σ' .no → SL σ' A' zs.length c' cnE zs → K (.tuple #[.slice A' zs.length c', .int .i64 ee]) σ') := ⟨fun K E hK => by
  haveI h := h0.sl
  haveI g := g0.sl
  obtain ⟨hn, hK⟩ := hK
  have hqq := q1.eq; subst hqq
  obtain ⟨hqq, hqq2⟩ := q2.eq
  subst hqq; subst hqq2
  have e1 : v1 = .agg (cats [#[.int .u32 (t.exp.toNat : Int)], #[.slice t.ins.A t.ins.n t.ins.c], #[.slice t.outs.A t.outs.n t.outs.c], kc t.anchor, #[.slice t.nulls.A t.nulls.n t.nulls.c], #[.slice t.notes.A t.notes.n t.notes.c], #[.int .i64 t.bal.toInt]]) := ht.eq
  subst e1
  haveI : OkE σ txE t := ⟨ht.ok⟩
  have hl := h.len
  have hol := (inferInstance : SL σ t.outs.A t.outs.n t.outs.c otE t.outs.l).len
  cases hf : foldA goneM xs (outsM t id 0).reverse with
  | none =>
    haveI : Is (foldA goneM xs (outsM t id 0).reverse) none := ⟨hf⟩
    have e : undoR xs t id ys = ([], 3) := by unfold undoR; rw [hf]
    rw [e] at hK
    refine calls_enter Try.func15 rfl _ Try.ntmps15 rfl ?_
    (repeat (first | refine go ?_ | refine goR ?_ | refine goS (fun yc hyc => ?_) | refine goL (fun _ _ => inferInstance) ?_ | with_reducible intro _ | refine goO (by first | omega | (simp only [List.length_cons, List.length_nil]; omega)) ?_ | fail))
    exact backN (σ0 := σ) Try.results15 (fun σ' _ _ => hK σ' none 0 inferInstance SL.nil_)
  | some us =>
    haveI : Is (foldA goneM xs (outsM t id 0).reverse) (some us) := ⟨hf⟩
    have hul := foldA_len (fun xs k zs h => by have := goneM_len h; omega) _ _ _ hf
    rw [List.length_reverse, outsM_len] at hul
    cases hg : foldA putC us ys.reverse with
    | none =>
      haveI : Is (foldA putC us ys.reverse) none := ⟨hg⟩
      have e : undoR xs t id ys = ([], 4) := by unfold undoR; rw [hf]; simp only [hg]
      rw [e] at hK
      refine calls_enter Try.func15 rfl _ Try.ntmps15 rfl ?_
      (repeat (first | refine go ?_ | refine goR ?_ | refine goS (fun yc hyc => ?_) | refine goL (fun _ _ => inferInstance) ?_ | with_reducible intro _ | refine goO (by first | omega | (simp only [List.length_cons, List.length_nil]; omega)) ?_ | fail))
      exact backN (σ0 := σ) Try.results15 (fun σ' _ _ => hK σ' none 0 inferInstance SL.nil_)
    | some vs =>
      haveI : Is (foldA putC us ys.reverse) (some vs) := ⟨hg⟩
      have e : undoR xs t id ys = (vs, 0) := by unfold undoR; rw [hf]; simp only [hg]
      rw [e] at hK
      refine calls_enter Try.func15 rfl _ Try.ntmps15 rfl ?_
      (repeat (first | refine go ?_ | refine goR ?_ | refine goS (fun yc hyc => ?_) | refine goL (fun _ _ => inferInstance) ?_ | with_reducible intro _ | refine goO (by first | omega | (simp only [List.length_cons, List.length_nil]; omega)) ?_ | fail))
      exact backN (σ0 := σ) Try.results15 (fun σ' _ _ => hK σ' _ _ inferInstance inferInstance)⟩
end
end Go.Proofs.Ytpnbfohdfffolaa
