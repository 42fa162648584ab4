/- nulls: Free, Spend, Undo, and the document's, by contract. No condition. -/
import Derived.Test.YtlcpjfeomlegpaaN1
set_option linter.all false
set_option maxHeartbeats 40000000
set_option synthInstance.maxHeartbeats 2000000
set_option synthInstance.maxSize 100000
namespace Go.Proofs.Ytlcpjfeomlegpaa
open Go Go.RowKit
def freeM (s l : List Key) : Bool := !meetK s l && distK l
section
variable {σ : St} {A B : Option Addr} {n c m d : Nat} {xs ys : List Key} {k : Key}
instance rule_Free [h0 : SLq σ A n c keyE xs] [g0 : SLq σ B m d keyE ys] {bb : Bool} [q : BV (freeM xs ys) bb] : CallRule Try.prog 13 [.slice A n c, .slice B m d] σ (fun K _ => (n + m ≤ 100000000000) ∧ ∀ σ', Nx σ σ' .no → K (.bool bb) σ') := ⟨fun K E hK => by
  haveI h := h0.sl
  haveI g := g0.sl
  have hq := q.eq; subst hq
  obtain ⟨hn, hK⟩ := hK
  cases h1 : meetK xs ys with
  | true =>
    haveI : BV (meetK xs ys) true := ⟨h1⟩
    have e : freeM xs ys = false := by unfold freeM; rw [h1]; rfl
    rw [e] at hK
    refine calls_enter Try.func13 rfl _ Try.ntmps13 rfl ?_
    (repeat (first | refine go ?_ | refine goR ?_ | refine goS (fun yc hyc => ?_) | refine goL (fun _ _ => inferInstance) ?_ | with_reducible intro _ | refine goO (by first | omega | (simp only [List.length_cons, List.length_nil]; omega)) ?_ | fail))
    exact backN (σ0 := σ) Try.results13 (fun σ' _ _ => hK σ' inferInstance)
  | false =>
    haveI : BV (meetK xs ys) false := ⟨h1⟩
    have e : freeM xs ys = distK ys := by unfold freeM; rw [h1]; rfl
    rw [e] at hK
    refine calls_enter Try.func13 rfl _ Try.ntmps13 rfl ?_
    (repeat (first | refine go ?_ | refine goR ?_ | refine goS (fun yc hyc => ?_) | refine goL (fun _ _ => inferInstance) ?_ | with_reducible intro _ | refine goO (by first | omega | (simp only [List.length_cons, List.length_nil]; omega)) ?_ | fail))
    exact backN (σ0 := σ) Try.results13 (fun σ' _ _ => hK σ' inferInstance)⟩
instance rule_ref_Free [h : SL σ A n c keyE xs] [g : SL σ B m d keyE ys] {bb : Bool} [q : BV (freeM xs ys) bb] : CallRule Try.prog 14 [.slice A n c, .slice B m d] σ (fun K _ => ∀ σ', Nx σ σ' .no → K (.bool bb) σ') := ⟨fun K E hK => by
  have hq := q.eq; subst hq
  cases h1 : meetK xs ys with
  | true =>
    haveI : BV (meetK xs ys) true := ⟨h1⟩
    have e : freeM xs ys = false := by unfold freeM; rw [h1]; rfl
    rw [e] at hK
    refine calls_enter Try.func14 rfl _ Try.ntmps14 rfl ?_
    (repeat (first | refine go ?_ | refine goR ?_ | refine goS (fun yc hyc => ?_) | refine goL (fun _ _ => inferInstance) ?_ | with_reducible intro _ | refine goO (by first | omega | (simp only [List.length_cons, List.length_nil]; omega)) ?_ | fail))
    exact backN (σ0 := σ) Try.results14 (fun σ' _ _ => hK σ' inferInstance)
  | false =>
    haveI : BV (meetK xs ys) false := ⟨h1⟩
    have e : freeM xs ys = distK ys := by unfold freeM; rw [h1]; rfl
    rw [e] at hK
    refine calls_enter Try.func14 rfl _ Try.ntmps14 rfl ?_
    (repeat (first | refine go ?_ | refine goR ?_ | refine goS (fun yc hyc => ?_) | refine goL (fun _ _ => inferInstance) ?_ | with_reducible intro _ | refine goO (by first | omega | (simp only [List.length_cons, List.length_nil]; omega)) ?_ | fail))
    exact backN (σ0 := σ) Try.results14 (fun σ' _ _ => hK σ' inferInstance)⟩
instance rule_Spend [h0 : SLq σ A n c keyE xs] [g0 : SLq σ B m d keyE ys] {o : Option (List Key)} {zs : List Key} {ee : Int} [q1 : Is (spendM xs ys) o] [q2 : OptKs o zs] [q3 : OptE o 161 ee] :
    CallRule Try.prog 8 [.slice A n c, .slice B m d] σ (fun K _ => (n + m ≤ 100000000000) ∧ ∀ σ' A' c', Nx σ σ' .no → SL σ' A' zs.length c' keyE zs → K (.tuple #[.slice A' zs.length c', .int .i64 ee]) σ') := ⟨fun K E hK => by
  haveI h := h0.sl
  haveI g := g0.sl
  have hq := q1.eq; subst hq
  have hq := q2.eq; subst hq
  have hq := q3.eq; subst hq
  obtain ⟨hn, hK⟩ := hK
  cases hf : freeM xs ys with
  | true =>
    haveI : BV (freeM xs ys) true := ⟨hf⟩
    have hf' := hf
    unfold freeM at hf
    simp only [Bool.and_eq_true, Bool.not_eq_true'] at hf
    haveI : Is (chgM insK (fun s k => !hasK s k) xs ys) (some (ys.foldl insK xs)) := ⟨chg_spend ys xs hf.1 hf.2⟩
    have e : spendM xs ys = some (ys.foldl insK xs) := if_pos hf'
    rw [e] at hK
    refine calls_enter Try.func8 rfl _ Try.ntmps8 rfl ?_
    (repeat (first | refine go ?_ | refine goR ?_ | refine goS (fun yc hyc => ?_) | refine goL (fun _ _ => inferInstance) ?_ | with_reducible intro _ | refine goO (by first | omega | (simp only [List.length_cons, List.length_nil]; omega)) ?_ | fail))
    exact backN (σ0 := σ) Try.results8 (fun σ' _ _ => hK σ' _ _ inferInstance inferInstance)
  | false =>
    haveI : BV (freeM xs ys) false := ⟨hf⟩
    have e : spendM xs ys = none := if_neg (by rw [show (!meetK xs ys && distK ys) = freeM xs ys from rfl, hf]; simp)
    rw [e] at hK
    refine calls_enter Try.func8 rfl _ Try.ntmps8 rfl ?_
    (repeat (first | refine go ?_ | refine goR ?_ | refine goS (fun yc hyc => ?_) | refine goL (fun _ _ => inferInstance) ?_ | with_reducible intro _ | refine goO (by first | omega | (simp only [List.length_cons, List.length_nil]; omega)) ?_ | fail))
    exact backN (σ0 := σ) Try.results8 (fun σ' _ _ => hK σ' none 0 inferInstance SL.nil_)⟩
instance rule_nulls_Undo [h0 : SLq σ A n c keyE xs] [g0 : SLq σ B m d keyE ys] {o : Option (List Key)} {zs : List Key} {ee : Int} [q1 : Is (undoM xs ys) o] [q2 : OptKs o zs] [q3 : OptE o 3 ee] :
    CallRule Try.prog 10 [.slice A n c, .slice B m d] σ (fun K _ => (n + m ≤ 100000000000) ∧ ∀ σ' A' c', Nx σ σ' .no → SL σ' A' zs.length c' keyE zs → K (.tuple #[.slice A' zs.length c', .int .i64 ee]) σ') := ⟨fun K E hK => by
  haveI h := h0.sl
  haveI g := g0.sl
  have hq := q1.eq; subst hq
  have hq := q2.eq; subst hq
  have hq := q3.eq; subst hq
  refine calls_enter Try.func10 rfl _ Try.ntmps10 rfl ?_
  (repeat (first | refine go ?_ | refine goR ?_ | refine goS (fun yc hyc => ?_) | refine goL (fun _ _ => inferInstance) ?_ | with_reducible intro _ | refine goO (by first | omega | (simp only [List.length_cons, List.length_nil]; omega)) ?_ | fail))
  exact backN (σ0 := σ) Try.results10 (fun σ' _ _ => hK.2 σ' _ _ inferInstance inferInstance)⟩
instance rule_ref10_Spend [h : SL σ A n c keyE xs] [g : SL σ B m d keyE ys] {o : Option (List Key)} {zs : List Key} {ee : Int} [q1 : Is (spendM xs ys) o] [q2 : OptKs o zs] [q3 : OptE o 161 ee] :
    CallRule Try.prog 9 [.slice A n c, .slice B m d] σ (fun K _ => (n + m ≤ 100000000000) ∧ ∀ σ' A' c', Nx σ σ' .no → SL σ' A' zs.length c' keyE zs → K (.tuple #[.slice A' zs.length c', .int .i64 ee]) σ') := ⟨fun K E hK => by
  have hq := q1.eq; subst hq
  have hq := q2.eq; subst hq
  have hq := q3.eq; subst hq
  obtain ⟨hn, hK⟩ := hK
  have hl := h.len
  have gl := g.len
  cases hf : freeM xs ys with
  | true =>
    haveI : BV (freeM xs ys) true := ⟨hf⟩
    have e : spendM xs ys = some (ys.foldl insK xs) := if_pos hf
    rw [e] at hK
    refine calls_enter Try.func9 rfl _ Try.ntmps9 rfl ?_
    (repeat (first | refine go ?_ | refine goR ?_ | refine goS (fun yc hyc => ?_) | refine goL (fun _ _ => inferInstance) ?_ | with_reducible intro _ | refine goO (by first | omega | (simp only [List.length_cons, List.length_nil]; omega)) ?_ | fail))
    rename St => s1
    haveI := Sub.nx (σ0 := σ) (inferInstance : Sub σ s1)
    refine WC.loopW 536863169 .no (fun (i : Nat) fr s => At fr 6 (.int .i64 (i : Int)) ∧ i ≤ m ∧ ∃ A1 c1 zs, At fr 0 (.slice A1 zs.length c1) ∧ SL s A1 zs.length c1 keyE zs ∧ zs = (ys.take i).foldl insK xs ∧ zs.length ≤ n + i) (fun i => m - i) 0
      ⟨At.to (.int .i64 0) rfl, Nat.zero_le _, A, c, xs, by rw [hl]; infer_instance, by rw [hl]; infer_instance, by rw [List.take_zero]; rfl, by omega⟩ ?_
    rintro i fr s ha hs ⟨a18, hi, A1, c1, zs, a0, hr, hc, hzl⟩
    by_cases hlt : i < m
    · haveI : BV (decide ((i : Int) < (m : Int))) true := ⟨by simpa using hlt⟩
      haveI : IdxLt i m := ⟨hlt⟩
      haveI : Fits .i64 ((i : Int) + 1) := Fits.i64 (by have := g.max; omega) (by have := g.max; omega)
      have hst : (ys.take (i + 1)).foldl insK xs = insK zs ys[i]! := by
        rw [take_snoc (by omega), foldl_snoc, hc]
      have hfl := len_insK zs ys[i]!
      (repeat (first | refine go ?_ | refine goR ?_ | refine goS (fun yc hyc => ?_) | refine goL (fun _ _ => inferInstance) ?_ | with_reducible intro _ | refine goO (by first | omega | (simp only [List.length_cons, List.length_nil]; omega)) ?_ | fail))
      refine loop_w (i + 1) ⟨At.to (.int .i64 ((i : Int) + 1)) (by simp), hlt, _, _, insK zs ys[i]!, inferInstance, inferInstance, hst.symm, by omega⟩ (by omega)
    · haveI : BV (decide ((i : Int) < (m : Int))) false := ⟨by simpa using hlt⟩
      rw [take_all (by omega)] at hc
      subst hc
      (repeat (first | refine go ?_ | refine goR ?_ | refine goS (fun yc hyc => ?_) | refine goL (fun _ _ => inferInstance) ?_ | with_reducible intro _ | refine goO (by first | omega | (simp only [List.length_cons, List.length_nil]; omega)) ?_ | fail))
      exact backN (σ0 := σ) Try.results9 (fun σ' _ _ => hK σ' _ _ inferInstance inferInstance)
  | false =>
    haveI : BV (freeM xs ys) false := ⟨hf⟩
    have e : spendM xs ys = none := if_neg (by rw [show (!meetK xs ys && distK ys) = freeM xs ys from rfl, hf]; simp)
    rw [e] at hK
    refine calls_enter Try.func9 rfl _ Try.ntmps9 rfl ?_
    (repeat (first | refine go ?_ | refine goR ?_ | refine goS (fun yc hyc => ?_) | refine goL (fun _ _ => inferInstance) ?_ | with_reducible intro _ | refine goO (by first | omega | (simp only [List.length_cons, List.length_nil]; omega)) ?_ | fail))
    exact backN (σ0 := σ) Try.results9 (fun σ' _ _ => hK σ' none 0 inferInstance SL.nil_)⟩
instance rule_ref10_Undo [h : SL σ A n c keyE xs] [g : SL σ B m d keyE ys] {o : Option (List Key)} {zs : List Key} {ee : Int} [q1 : Is (undoM xs ys) o] [q2 : OptKs o zs] [q3 : OptE o 3 ee] :
    CallRule Try.prog 11 [.slice A n c, .slice B m d] σ (fun K _ => (n + m ≤ 100000000000) ∧ ∀ σ' A' c', Nx σ σ' .no → SL σ' A' zs.length c' keyE zs → K (.tuple #[.slice A' zs.length c', .int .i64 ee]) σ') := ⟨fun K E hK => by
  have hq := q1.eq; subst hq
  have hq := q2.eq; subst hq
  have hq := q3.eq; subst hq
  obtain ⟨hn, hK⟩ := hK
  have hl := h.len
  have gl := g.len
  refine calls_enter Try.func11 rfl _ Try.ntmps11 rfl ?_
  (repeat (first | refine go ?_ | refine goR ?_ | refine goS (fun yc hyc => ?_) | refine goL (fun _ _ => inferInstance) ?_ | with_reducible intro _ | refine goO (by first | omega | (simp only [List.length_cons, List.length_nil]; omega)) ?_ | fail))
  refine WC.loopW 134217713 .no (fun (i : Nat) fr s => At fr 6 (.int .i64 (i : Int)) ∧ i ≤ m ∧ ∃ A1 c1 zs, At fr 0 (.slice A1 zs.length c1) ∧ SL s A1 zs.length c1 keyE zs ∧ undoM xs (ys.take i) = some zs ∧ zs.length ≤ n + i) (fun i => m - i) 0
    ⟨At.to (.int .i64 0) rfl, Nat.zero_le _, A, c, xs, by rw [hl]; infer_instance, by rw [hl]; infer_instance, by rw [List.take_zero]; rfl, by omega⟩ ?_
  rintro i fr s ha hs ⟨a18, hi, A1, c1, zs, a0, hr, hc, hzl⟩
  by_cases hlt : i < m
  · haveI : BV (decide ((i : Int) < (m : Int))) true := ⟨by simpa using hlt⟩
    haveI : IdxLt i m := ⟨hlt⟩
    haveI : Fits .i64 ((i : Int) + 1) := Fits.i64 (by have := g.max; omega) (by have := g.max; omega)
    have hst : undoM xs (ys.take (i + 1)) = if hasK zs ys[i]! then some (remK zs ys[i]!) else none := by
      unfold undoM at *
      rw [take_snoc (by omega), chgM_snoc, hc]; rfl
    have hfl := len_remK_le zs ys[i]!
    cases hp : hasK zs ys[i]! with
    | true =>
      haveI : BV (hasK zs ys[i]!) true := ⟨hp⟩
      (repeat (first | refine go ?_ | refine goR ?_ | refine goS (fun yc hyc => ?_) | refine goL (fun _ _ => inferInstance) ?_ | with_reducible intro _ | refine goO (by first | omega | (simp only [List.length_cons, List.length_nil]; omega)) ?_ | fail))
      refine loop_w (i + 1) ⟨At.to (.int .i64 ((i : Int) + 1)) (by simp), hlt, _, _, remK zs ys[i]!, inferInstance, inferInstance, by rw [hst, hp]; rfl, by omega⟩ (by omega)
    | false =>
      haveI : BV (hasK zs ys[i]!) false := ⟨hp⟩
      rw [hp] at hst
      have hnone : undoM xs ys = none := chgM_pre hst
      rw [hnone] at hK
      (repeat (first | refine go ?_ | refine goR ?_ | refine goS (fun yc hyc => ?_) | refine goL (fun _ _ => inferInstance) ?_ | with_reducible intro _ | refine goO (by first | omega | (simp only [List.length_cons, List.length_nil]; omega)) ?_ | fail))
      exact backN (σ0 := σ) Try.results11 (fun σ' _ _ => hK σ' none 0 inferInstance SL.nil_)
  · haveI : BV (decide ((i : Int) < (m : Int))) false := ⟨by simpa using hlt⟩
    rw [take_all (by omega)] at hc
    rw [hc] at hK
    (repeat (first | refine go ?_ | refine goR ?_ | refine goS (fun yc hyc => ?_) | refine goL (fun _ _ => inferInstance) ?_ | with_reducible intro _ | refine goO (by first | omega | (simp only [List.length_cons, List.length_nil]; omega)) ?_ | fail))
    exact backN (σ0 := σ) Try.results11 (fun σ' _ _ => hK σ' _ _ inferInstance inferInstance)⟩
end
end Go.Proofs.Ytlcpjfeomlegpaa
