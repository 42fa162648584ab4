/- The reference's put, Sort, Insert, Remove, Distinct, Meet of keys, by contract. No condition. -/
import Derived.Test.YtlcpjfeomlegpaaK4
set_option linter.all false
set_option maxHeartbeats 40000000
set_option synthInstance.maxHeartbeats 2000000
set_option synthInstance.maxSize 100000
namespace Go.Proofs.Ytlcpjfeomlegpaa
open Go Go.RowKit
section
variable {σ : St} {A B : Option Addr} {n c m d : Nat} {xs ys : List Key} {k : Key}
theorem any_take {xs : List Key} {k : Key} {i : Nat} (h : i < xs.length) : (xs.take (i + 1)).any (fun y => klt k y) = ((xs.take i).any (fun y => klt k y) || klt k xs[i]!) := by
  rw [take_snoc h]; simp
instance rule_ref_put [h : SL σ A n c keyE xs] : CallRule Try.prog 27 [.slice A n c, .agg (kc k)] σ (fun K _ => (n ≤ 200000000000) ∧ ∀ σ' A' c', Nx σ σ' .no → SL σ' A' (n + 1) c' keyE (kput xs k) → K (.slice A' (n + 1) c') σ') := ⟨fun K E hK => by
  obtain ⟨hn, hK⟩ := hK
  have hl := h.len
  refine calls_enter Try.func27 rfl _ Try.ntmps27 rfl ?_
  (repeat (first | refine go ?_ | refine goR ?_ | refine goS (fun yc hyc => ?_) | refine goL (fun _ _ => inferInstance) ?_ | with_reducible intro _ | refine goO (by first | omega | (simp only [List.length_cons, List.length_nil]; omega)) ?_ | fail))
  rename Option Addr => A0
  rename St => s0
  refine WC.loopW 68719476448 (.row A0 29) (fun (i : Nat) f s => At f 7 (.int .i64 (i : Int)) ∧ i ≤ n ∧ ∃ dn : Bool, ∃ A1 m1 c1 zs, At f 6 (.bool dn) ∧ At f 5 (.slice A1 m1 c1) ∧ Row s A1 m1 c1 29 keyE zs ∧ RowNew s0 A0 A1 ∧ dn = (xs.take i).any (fun y => klt k y) ∧ zs = (if dn then kput (xs.take i) k else xs.take i)) (fun i => n - i) 0
    ⟨At.to (.int .i64 0) rfl, Nat.zero_le _, false, A0, 0, 0, [], inferInstance, inferInstance, inferInstance, Gr.rn inferInstance, rfl, rfl⟩ ?_
  rintro i f s ha hs ⟨a7, hi, dn, A1, m1, c1, zs, a6, a5, hr, hrn, hdn, hzs⟩
  have hm1 := hr.len
  have hlen : m1 = i + (if dn then 1 else 0) := by
    rw [← hm1, hzs]
    cases dn
    · simp; omega
    · simp [(kput_perm _ k).length_eq]; omega
  by_cases hlt : i < n
  · haveI : BV (decide ((i : Int) < (n : Int))) true := ⟨by simpa using hlt⟩
    haveI : IdxLt i n := ⟨hlt⟩
    haveI : Fits .i64 ((i : Int) + 1) := Fits.i64 (by omega) (by omega)
    have hat := any_take (k := k) (show i < xs.length by omega)
    have hks := kput_snoc (xs.take i) xs[i]! k
    rw [← take_snoc (by omega)] at hks
    cases dn with
    | true =>
      simp only [if_true] at hzs hlen
      rw [← hdn] at hat hks
      simp only [Bool.true_or, if_true] at hat hks
      (repeat (first | refine go ?_ | refine goR ?_ | refine goS (fun yc hyc => ?_) | refine goL (fun _ _ => inferInstance) ?_ | with_reducible intro _ | refine goO (by first | omega | (simp only [List.length_cons, List.length_nil]; omega)) ?_ | fail))
      refine WC.draw [] (.p 0 (.p 1 (.p 2 (.l 3 (.p 4 (.p 5 (.l 6 (.l 7 (.h 8 (.p 9 .nil)))))))))) mixed (by decide +kernel) ?_
      (repeat (first | refine go ?_ | refine goR ?_ | refine goS (fun yc hyc => ?_) | refine goL (fun _ _ => inferInstance) ?_ | with_reducible intro _ | refine goO (by first | omega | (simp only [List.length_cons, List.length_nil]; omega)) ?_ | fail))
      refine loop_w (i + 1) ⟨At.to (.int .i64 ((i : Int) + 1)) (by simp), hlt, true, _, _, _, _, inferInstance, inferInstance, inferInstance, Gr.rn inferInstance, hat.symm, ?_⟩ (by omega)
      rw [if_pos rfl, hks, hzs]
    | false =>
      rw [← hdn] at hat hks
      simp only [Bool.false_eq_true, if_false] at hzs hlen hks
      rw [Bool.false_or] at hat
      by_cases hk : klt k xs[i]! = true
      · haveI : BV (klt k xs[i]!) true := ⟨hk⟩
        (repeat (first | refine go ?_ | refine goR ?_ | refine goS (fun yc hyc => ?_) | refine goL (fun _ _ => inferInstance) ?_ | with_reducible intro _ | refine goO (by first | omega | (simp only [List.length_cons, List.length_nil]; omega)) ?_ | fail))
        refine WC.draw [] (.p 0 (.p 1 (.p 2 (.l 3 (.p 4 (.p 5 (.l 6 (.l 7 (.h 8 (.p 9 .nil)))))))))) mixed (by decide +kernel) ?_
        (repeat (first | refine go ?_ | refine goR ?_ | refine goS (fun yc hyc => ?_) | refine goL (fun _ _ => inferInstance) ?_ | with_reducible intro _ | refine goO (by first | omega | (simp only [List.length_cons, List.length_nil]; omega)) ?_ | fail))
        refine loop_w (i + 1) ⟨At.to (.int .i64 ((i : Int) + 1)) (by simp), hlt, true, _, _, _, _, inferInstance, inferInstance, inferInstance, Gr.rn inferInstance, by rw [hat, hk], ?_⟩ (by omega)
        rw [if_pos rfl, hks, if_pos hk, hzs]; simp
      · simp only [Bool.not_eq_true] at hk
        haveI : BV (klt k xs[i]!) false := ⟨hk⟩
        (repeat (first | refine go ?_ | refine goR ?_ | refine goS (fun yc hyc => ?_) | refine goL (fun _ _ => inferInstance) ?_ | with_reducible intro _ | refine goO (by first | omega | (simp only [List.length_cons, List.length_nil]; omega)) ?_ | fail))
        refine WC.draw [] (.p 0 (.p 1 (.p 2 (.l 3 (.p 4 (.p 5 (.l 6 (.l 7 (.h 8 (.p 9 .nil)))))))))) mixed (by decide +kernel) ?_
        (repeat (first | refine go ?_ | refine goR ?_ | refine goS (fun yc hyc => ?_) | refine goL (fun _ _ => inferInstance) ?_ | with_reducible intro _ | refine goO (by first | omega | (simp only [List.length_cons, List.length_nil]; omega)) ?_ | fail))
        refine loop_w (i + 1) ⟨At.to (.int .i64 ((i : Int) + 1)) (by simp), hlt, false, _, _, _, _, inferInstance, inferInstance, inferInstance, Gr.rn inferInstance, by rw [hat, hk], ?_⟩ (by omega)
        rw [if_neg (by simp), hzs, take_snoc (by omega)]
  · haveI : BV (decide ((i : Int) < (n : Int))) false := ⟨by simpa using hlt⟩
    have ht : xs.take i = xs := take_all (by omega)
    rw [ht] at hdn hzs
    cases dn with
    | true =>
      simp only [if_true] at hzs hlen
      subst hzs
      have e : m1 = n + 1 := by omega
      subst e
      (repeat (first | refine go ?_ | refine goR ?_ | refine goS (fun yc hyc => ?_) | refine goL (fun _ _ => inferInstance) ?_ | with_reducible intro _ | refine goO (by first | omega | (simp only [List.length_cons, List.length_nil]; omega)) ?_ | fail))
      exact back1 (σ0 := σ) Try.results27 (fun σ' _ _ => hK σ' _ _ inferInstance inferInstance)
    | false =>
      simp only [Bool.false_eq_true, if_false] at hzs hlen
      have e : m1 = n := by omega
      subst e
      subst hzs
      rw [kput_none hdn.symm] at hK
      (repeat (first | refine go ?_ | refine goR ?_ | refine goS (fun yc hyc => ?_) | refine goL (fun _ _ => inferInstance) ?_ | with_reducible intro _ | refine goO (by first | omega | (simp only [List.length_cons, List.length_nil]; omega)) ?_ | fail))
      exact back1 (σ0 := σ) Try.results27 (fun σ' _ _ => hK σ' _ _ inferInstance inferInstance)⟩
instance rule_ref_Sort [h : SL σ A n c keyE xs] : CallRule Try.prog 15 [.slice A n c] σ (fun K _ => (n ≤ 200000000000) ∧ ∀ σ' A' c', Nx σ σ' .no → SL σ' A' n c' keyE (ksort xs) → K (.slice A' n c') σ') := ⟨fun K E hK => by
  obtain ⟨hn, hK⟩ := hK
  have hl := h.len
  refine calls_enter Try.func15 rfl _ Try.ntmps15 rfl ?_
  (repeat (first | refine go ?_ | refine goR ?_ | refine goS (fun yc hyc => ?_) | refine goL (fun _ _ => inferInstance) ?_ | with_reducible intro _ | refine goO (by first | omega | (simp only [List.length_cons, List.length_nil]; omega)) ?_ | fail))
  rename Option Addr => A0
  rename St => s0
  refine WC.freeze A0 (fun s1 hn1 hs1 => ?_)
  haveI := Sub.nx (σ0 := σ) (inferInstance : Sub σ s1)
  refine WC.loopW 262104 .no (fun (i : Nat) f s => At f 4 (.int .i64 (i : Int)) ∧ i ≤ n ∧ ∃ A1 c1, At f 3 (.slice A1 i c1) ∧ SL s A1 i c1 keyE ((xs.take i).foldl kput [])) (fun i => n - i) 0
    ⟨At.to (.int .i64 0) rfl, Nat.zero_le _, A0, 0, inferInstance, inferInstance⟩ ?_
  rintro i f s ha hs ⟨a4, hi, A1, c1, a3, hr⟩
  by_cases hlt : i < n
  · haveI : BV (decide ((i : Int) < (n : Int))) true := ⟨by simpa using hlt⟩
    haveI : IdxLt i n := ⟨hlt⟩
    haveI : Fits .i64 ((i : Int) + 1) := Fits.i64 (by omega) (by omega)
    (repeat (first | refine go ?_ | refine goR ?_ | refine goS (fun yc hyc => ?_) | refine goL (fun _ _ => inferInstance) ?_ | with_reducible intro _ | refine goO (by first | omega | (simp only [List.length_cons, List.length_nil]; omega)) ?_ | fail))
    refine loop_w (i + 1) ⟨At.to (.int .i64 ((i : Int) + 1)) (by simp), hlt, _, _, inferInstance, ?_⟩ (by omega)
    rw [take_snoc (by omega), foldl_snoc]
    infer_instance
  · haveI : BV (decide ((i : Int) < (n : Int))) false := ⟨by simpa using hlt⟩
    have e : i = n := by omega
    subst e
    rw [take_all hl] at hr
    (repeat (first | refine go ?_ | refine goR ?_ | refine goS (fun yc hyc => ?_) | refine goL (fun _ _ => inferInstance) ?_ | with_reducible intro _ | refine goO (by first | omega | (simp only [List.length_cons, List.length_nil]; omega)) ?_ | fail))
    exact back1 (σ0 := σ) Try.results15 (fun σ' _ _ => hK σ' _ _ inferInstance (inferInstance : SL σ' A1 i c1 keyE (xs.foldl kput [])))⟩
instance rule_ref_Insert [h : SL σ A n c keyE xs] {bb : Bool} {zs : List Key} [q3 : Is (insK xs k) zs] [q2 : BV (!hasK xs k) bb] : CallRule Try.prog 21 [.slice A n c, .agg (kc k)] σ (fun K _ => (n ≤ 200000000000) ∧ ∀ σ' A' c', Nx σ σ' .no → SL σ' A' zs.length c' keyE zs → K (.tuple #[.slice A' zs.length c', .bool bb]) σ') := ⟨fun K E hK => by
  have hz := q3.eq; subst hz
  obtain ⟨hn, hK⟩ := hK
  have hq := q2.eq
  have hl := h.len
  cases hh : hasK xs k with
  | true =>
    haveI : BV (hasK xs k) true := ⟨hh⟩
    have e : insK xs k = xs := by unfold insK; rw [if_pos hh]
    have hb : bb = false := by rw [← hq, hh]; rfl
    subst hb
    rw [e, hl] at hK
    refine calls_enter Try.func21 rfl _ Try.ntmps21 rfl ?_
    (repeat (first | refine go ?_ | refine goR ?_ | refine goS (fun yc hyc => ?_) | refine goL (fun _ _ => inferInstance) ?_ | with_reducible intro _ | refine goO (by first | omega | (simp only [List.length_cons, List.length_nil]; omega)) ?_ | fail))
    exact back2 (σ0 := σ) Try.results21 (fun σ' _ _ => hK σ' _ _ inferInstance inferInstance)
  | false =>
    haveI : BV (hasK xs k) false := ⟨hh⟩
    have hb : bb = true := by rw [← hq, hh]; rfl
    subst hb
    have e : insK xs k = kput xs k := by unfold insK; rw [if_neg (by simp [hh])]
    have e2 : (kput xs k).length = n + 1 := by rw [(kput_perm xs k).length_eq]; simp [hl]
    rw [e, e2] at hK
    refine calls_enter Try.func21 rfl _ Try.ntmps21 rfl ?_
    (repeat (first | refine go ?_ | refine goR ?_ | refine goS (fun yc hyc => ?_) | refine goL (fun _ _ => inferInstance) ?_ | with_reducible intro _ | refine goO (by first | omega | (simp only [List.length_cons, List.length_nil]; omega)) ?_ | fail))
    exact back2 (σ0 := σ) Try.results21 (fun σ' _ _ => hK σ' _ _ inferInstance inferInstance)⟩
theorem hasK_take' {xs : List Key} {k : Key} {i : Nat} (h : i < xs.length) : hasK (xs.take (i + 1)) k = (hasK (xs.take i) k || decide (xs[i]! = k)) := hasK_take h
instance rule_ref_Remove [h : SL σ A n c keyE xs] {bb : Bool} {zs : List Key} [q3 : Is (remK xs k) zs] [q2 : BV (hasK xs k) bb] : CallRule Try.prog 23 [.slice A n c, .agg (kc k)] σ (fun K _ => (n ≤ 200000000000) ∧ ∀ σ' A' c', Nx σ σ' .no → SL σ' A' zs.length c' keyE zs → K (.tuple #[.slice A' zs.length c', .bool bb]) σ') := ⟨fun K E hK => by
  have hz := q3.eq; subst hz
  obtain ⟨hn, hK⟩ := hK
  have hq := q2.eq; subst hq
  have hl := h.len
  refine calls_enter Try.func23 rfl _ Try.ntmps23 rfl ?_
  (repeat (first | refine go ?_ | refine goR ?_ | refine goS (fun yc hyc => ?_) | refine goL (fun _ _ => inferInstance) ?_ | with_reducible intro _ | refine goO (by first | omega | (simp only [List.length_cons, List.length_nil]; omega)) ?_ | fail))
  rename Option Addr => A0
  rename St => s0
  refine WC.loopW 8589934016 (.row A0 29) (fun (i : Nat) f s => At f 8 (.int .i64 (i : Int)) ∧ i ≤ n ∧ ∃ dn : Bool, ∃ A1 m1 c1 zs, At f 7 (.bool dn) ∧ At f 6 (.slice A1 m1 c1) ∧ Row s A1 m1 c1 29 keyE zs ∧ RowNew s0 A0 A1 ∧ dn = hasK (xs.take i) k ∧ zs = remK (xs.take i) k ∧ m1 ≤ i) (fun i => n - i) 0
    ⟨At.to (.int .i64 0) rfl, Nat.zero_le _, false, A0, 0, 0, [], inferInstance, inferInstance, inferInstance, Gr.rn inferInstance, rfl, rfl, Nat.le_refl _⟩ ?_
  rintro i f s ha hs ⟨a8, hi, dn, A1, m1, c1, zs, a7, a6, hr, hrn, hdn, hzs, hm1⟩
  by_cases hlt : i < n
  · haveI : BV (decide ((i : Int) < (n : Int))) true := ⟨by simpa using hlt⟩
    haveI : IdxLt i n := ⟨hlt⟩
    haveI : Fits .i64 ((i : Int) + 1) := Fits.i64 (by omega) (by omega)
    have hat := hasK_take (k := k) (show i < xs.length by omega)
    have hks := remK_snoc (xs.take i) xs[i]! k
    rw [← take_snoc (by omega)] at hks
    cases dn with
    | true =>
      rw [← hdn] at hat hks
      simp only [Bool.true_or, if_true] at hat hks
      (repeat (first | refine go ?_ | refine goR ?_ | refine goS (fun yc hyc => ?_) | refine goL (fun _ _ => inferInstance) ?_ | with_reducible intro _ | refine goO (by first | omega | (simp only [List.length_cons, List.length_nil]; omega)) ?_ | fail))
      refine WC.draw [] (.p 0 (.p 1 (.p 2 (.p 3 (.p 4 (.l 5 (.l 6 (.l 7 (.p 8 (.p 9 .nil)))))))))) mixed (by decide +kernel) ?_
      (repeat (first | refine go ?_ | refine goR ?_ | refine goS (fun yc hyc => ?_) | refine goL (fun _ _ => inferInstance) ?_ | with_reducible intro _ | refine goO (by first | omega | (simp only [List.length_cons, List.length_nil]; omega)) ?_ | fail))
      refine loop_w (i + 1) ⟨At.to (.int .i64 ((i : Int) + 1)) (by simp), hlt, true, _, _, _, _, inferInstance, inferInstance, inferInstance, Gr.rn inferInstance, hat.symm, ?_, by omega⟩ (by omega)
      rw [hks, hzs]
    | false =>
      have h0 := remK_not _ _ hdn.symm
      rw [← hdn] at hat hks
      simp only [Bool.false_eq_true, if_false] at hks
      rw [Bool.false_or] at hat
      by_cases hk : xs[i]! = k
      · haveI : BV (decide (xs[i]! = k)) true := ⟨by simpa using hk⟩
        (repeat (first | refine go ?_ | refine goR ?_ | refine goS (fun yc hyc => ?_) | refine goL (fun _ _ => inferInstance) ?_ | with_reducible intro _ | refine goO (by first | omega | (simp only [List.length_cons, List.length_nil]; omega)) ?_ | fail))
        refine WC.draw [] (.p 0 (.p 1 (.p 2 (.p 3 (.p 4 (.l 5 (.l 6 (.l 7 (.p 8 (.p 9 .nil)))))))))) mixed (by decide +kernel) ?_
        (repeat (first | refine go ?_ | refine goR ?_ | refine goS (fun yc hyc => ?_) | refine goL (fun _ _ => inferInstance) ?_ | with_reducible intro _ | refine goO (by first | omega | (simp only [List.length_cons, List.length_nil]; omega)) ?_ | fail))
        refine loop_w (i + 1) ⟨At.to (.int .i64 ((i : Int) + 1)) (by simp), hlt, true, _, _, _, _, inferInstance, inferInstance, inferInstance, Gr.rn inferInstance, by rw [hat]; simpa using hk, ?_, by omega⟩ (by omega)
        rw [hks, if_pos hk, hzs, h0]
      · haveI : BV (decide (xs[i]! = k)) false := ⟨by simpa using hk⟩
        (repeat (first | refine go ?_ | refine goR ?_ | refine goS (fun yc hyc => ?_) | refine goL (fun _ _ => inferInstance) ?_ | with_reducible intro _ | refine goO (by first | omega | (simp only [List.length_cons, List.length_nil]; omega)) ?_ | fail))
        refine WC.draw [] (.p 0 (.p 1 (.p 2 (.p 3 (.p 4 (.l 5 (.l 6 (.l 7 (.p 8 (.p 9 .nil)))))))))) mixed (by decide +kernel) ?_
        (repeat (first | refine go ?_ | refine goR ?_ | refine goS (fun yc hyc => ?_) | refine goL (fun _ _ => inferInstance) ?_ | with_reducible intro _ | refine goO (by first | omega | (simp only [List.length_cons, List.length_nil]; omega)) ?_ | fail))
        refine loop_w (i + 1) ⟨At.to (.int .i64 ((i : Int) + 1)) (by simp), hlt, false, _, _, _, _, inferInstance, inferInstance, inferInstance, Gr.rn inferInstance, by rw [hat]; simpa using hk, ?_, by omega⟩ (by omega)
        rw [hks, if_neg hk, hzs, h0, ← take_snoc (by omega)]
  · haveI : BV (decide ((i : Int) < (n : Int))) false := ⟨by simpa using hlt⟩
    rw [take_all (by omega)] at hdn hzs
    have e := hr.len
    subst hzs
    subst e
    rw [← hdn] at hK
    (repeat (first | refine go ?_ | refine goR ?_ | refine goS (fun yc hyc => ?_) | refine goL (fun _ _ => inferInstance) ?_ | with_reducible intro _ | refine goO (by first | omega | (simp only [List.length_cons, List.length_nil]; omega)) ?_ | fail))
    exact back2 (σ0 := σ) Try.results23 (fun σ' _ _ => hK σ' _ _ inferInstance inferInstance)⟩
instance rule_ref_Distinct [h : SL σ A n c keyE xs] {bb : Bool} [q2 : BV (distK xs) bb] : CallRule Try.prog 16 [.slice A n c] σ (fun K _ => ∀ σ', Nx σ σ' .no → K (.bool bb) σ') := ⟨fun K E hK => by
  have hq := q2.eq; subst hq
  have hl := h.len
  have hm := h.max
  refine calls_enter Try.func16 rfl _ Try.ntmps16 rfl ?_
  (repeat (first | refine go ?_ | refine goR ?_ | refine goS (fun yc hyc => ?_) | refine goL (fun _ _ => inferInstance) ?_ | with_reducible intro _ | refine goO (by first | omega | (simp only [List.length_cons, List.length_nil]; omega)) ?_ | fail))
  refine WC.loopW 262140 .no (fun (i : Nat) f s => At f 3 (.int .i64 (i : Int)) ∧ i ≤ n ∧ distK (xs.take i) = true) (fun i => n - i) 0 ⟨At.to (.int .i64 0) rfl, Nat.zero_le _, rfl⟩ ?_
  rintro i f s ha hs ⟨a3, hi, hd⟩
  by_cases hlt : i < n
  · haveI : BV (decide ((i : Int) < (n : Int))) true := ⟨by simpa using hlt⟩
    haveI : IdxLt i n := ⟨hlt⟩
    haveI : Fits .i64 ((i : Int) + 1) := Fits.i64 (by omega) (by omega)
    have hdt := distK_take (show i < xs.length by omega)
    rw [hd, Bool.true_and] at hdt
    have e0 : (xs.drop 0).take (i - 0) = xs.take i := by simp
    cases hh : hasK (xs.take i) xs[i]! with
    | true =>
      haveI : BV (hasK ((xs.drop 0).take (i - 0)) xs[i]!) true := ⟨by rw [e0]; exact hh⟩
      (repeat (first | refine go ?_ | refine goR ?_ | refine goS (fun yc hyc => ?_) | refine goL (fun _ _ => inferInstance) ?_ | with_reducible intro _ | refine goO (by first | omega | (simp only [List.length_cons, List.length_nil]; omega)) ?_ | fail))
      refine WC.draw [] (.p 0 (.p 1 (.l 2 (.p 3 (.p 4 (.l 5 (.l 6 (.h 7 .nil)))))))) mixed (by decide +kernel) ?_
      (repeat (first | refine go ?_ | refine goR ?_ | refine goS (fun yc hyc => ?_) | refine goL (fun _ _ => inferInstance) ?_ | with_reducible intro _ | refine goO (by first | omega | (simp only [List.length_cons, List.length_nil]; omega)) ?_ | fail))
      have : distK xs = false := by
        rw [hh] at hdt
        unfold distK at hdt ⊢
        simp only [Bool.not_true, decide_eq_false_iff_not] at hdt ⊢
        exact fun h => hdt (h.sublist (List.take_sublist _ _))
      rw [this] at hK
      exact back1 (σ0 := σ) Try.results16 (fun σ' _ _ => hK σ' inferInstance)
    | false =>
      haveI : BV (hasK ((xs.drop 0).take (i - 0)) xs[i]!) false := ⟨by rw [e0]; exact hh⟩
      (repeat (first | refine go ?_ | refine goR ?_ | refine goS (fun yc hyc => ?_) | refine goL (fun _ _ => inferInstance) ?_ | with_reducible intro _ | refine goO (by first | omega | (simp only [List.length_cons, List.length_nil]; omega)) ?_ | fail))
      refine WC.draw [] (.p 0 (.p 1 (.l 2 (.p 3 (.p 4 (.l 5 (.l 6 (.h 7 .nil)))))))) mixed (by decide +kernel) ?_
      (repeat (first | refine go ?_ | refine goR ?_ | refine goS (fun yc hyc => ?_) | refine goL (fun _ _ => inferInstance) ?_ | with_reducible intro _ | refine goO (by first | omega | (simp only [List.length_cons, List.length_nil]; omega)) ?_ | fail))
      refine loop_w (i + 1) ⟨At.to (.int .i64 ((i : Int) + 1)) (by simp), hlt, by rw [hdt, hh]; rfl⟩ (by omega)
  · haveI : BV (decide ((i : Int) < (n : Int))) false := ⟨by simpa using hlt⟩
    rw [take_all (by omega)] at hd
    rw [hd] at hK
    (repeat (first | refine go ?_ | refine goR ?_ | refine goS (fun yc hyc => ?_) | refine goL (fun _ _ => inferInstance) ?_ | with_reducible intro _ | refine goO (by first | omega | (simp only [List.length_cons, List.length_nil]; omega)) ?_ | fail))
    exact back1 (σ0 := σ) Try.results16 (fun σ' _ _ => hK σ' inferInstance)⟩
theorem meetK_take {l m : List Key} {i : Nat} (h : i < l.length) : meetK (l.take (i + 1)) m = (meetK (l.take i) m || hasK m l[i]!) := by
  unfold meetK
  rw [take_snoc h]; simp
instance rule_ref_Meet [h : SL σ A n c keyE xs] [g : SL σ B m d keyE ys] {bb : Bool} [q2 : BV (meetK xs ys) bb] : CallRule Try.prog 26 [.slice A n c, .slice B m d] σ (fun K _ => ∀ σ', Nx σ σ' .no → K (.bool bb) σ') := ⟨fun K E hK => by
  have hq := q2.eq; subst hq
  have hl := h.len
  have hm := h.max
  refine calls_enter Try.func26 rfl _ Try.ntmps26 rfl ?_
  (repeat (first | refine go ?_ | refine goR ?_ | refine goS (fun yc hyc => ?_) | refine goL (fun _ _ => inferInstance) ?_ | with_reducible intro _ | refine goO (by first | omega | (simp only [List.length_cons, List.length_nil]; omega)) ?_ | fail))
  refine WC.loopW 262128 .no (fun (i : Nat) f s => At f 5 (.int .i64 (i : Int)) ∧ i ≤ n ∧ meetK (xs.take i) ys = false) (fun i => n - i) 0 ⟨At.to (.int .i64 0) rfl, Nat.zero_le _, rfl⟩ ?_
  rintro i f s ha hs ⟨a5, hi, hd⟩
  by_cases hlt : i < n
  · haveI : BV (decide ((i : Int) < (n : Int))) true := ⟨by simpa using hlt⟩
    haveI : IdxLt i n := ⟨hlt⟩
    haveI : Fits .i64 ((i : Int) + 1) := Fits.i64 (by omega) (by omega)
    have hdt := meetK_take (m := ys) (show i < xs.length by omega)
    rw [hd, Bool.false_or] at hdt
    cases hh : hasK ys xs[i]! with
    | true =>
      haveI : BV (hasK ys xs[i]!) true := ⟨hh⟩
      (repeat (first | refine go ?_ | refine goR ?_ | refine goS (fun yc hyc => ?_) | refine goL (fun _ _ => inferInstance) ?_ | with_reducible intro _ | refine goO (by first | omega | (simp only [List.length_cons, List.length_nil]; omega)) ?_ | fail))
      have : meetK xs ys = true := meetK_iff.2 ⟨xs[i]!, by rw [getElem!_pos xs i (by omega)]; exact List.getElem_mem _, hasK_iff.1 hh⟩
      rw [this] at hK
      exact back1 (σ0 := σ) Try.results26 (fun σ' _ _ => hK σ' inferInstance)
    | false =>
      haveI : BV (hasK ys xs[i]!) false := ⟨hh⟩
      (repeat (first | refine go ?_ | refine goR ?_ | refine goS (fun yc hyc => ?_) | refine goL (fun _ _ => inferInstance) ?_ | with_reducible intro _ | refine goO (by first | omega | (simp only [List.length_cons, List.length_nil]; omega)) ?_ | fail))
      refine loop_w (i + 1) ⟨At.to (.int .i64 ((i : Int) + 1)) (by simp), hlt, by rw [hdt, hh]⟩ (by omega)
  · haveI : BV (decide ((i : Int) < (n : Int))) false := ⟨by simpa using hlt⟩
    rw [take_all (by omega)] at hd
    rw [hd] at hK
    (repeat (first | refine go ?_ | refine goR ?_ | refine goS (fun yc hyc => ?_) | refine goL (fun _ _ => inferInstance) ?_ | with_reducible intro _ | refine goO (by first | omega | (simp only [List.length_cons, List.length_nil]; omega)) ?_ | fail))
    exact back1 (σ0 := σ) Try.results26 (fun σ' _ _ => hK σ' inferInstance)⟩
end
end Go.Proofs.Ytlcpjfeomlegpaa
