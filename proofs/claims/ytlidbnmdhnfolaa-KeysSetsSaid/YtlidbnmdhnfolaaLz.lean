/- The law KeysSets, by contract. No condition. -/
import Derived.Test.YtlidbnmdhnfolaaLt
import Derived.Test.YtlidbnmdhnfolaaKk
set_option linter.all false
set_option maxHeartbeats 40000000
set_option synthInstance.maxHeartbeats 2000000
set_option synthInstance.maxSize 100000
namespace Go.Proofs.Ytlidbnmdhnfolaa
open Go Go.RowKit
theorem srt_insK {l : List Key} (k : Key) (h : Srt kcmp l) : Srt kcmp (insK l k) := by
  unfold insK
  split
  · exact h
  · exact kput_srt h
theorem srt_remK {l : List Key} (k : Key) (h : Srt kcmp l) : Srt kcmp (remK l k) := by
  have : (remK l k).Sublist l := by
    induction l with
    | nil => exact List.Sublist.refl _
    | cons y l ih =>
      unfold remK
      split
      · exact List.sublist_cons_self _ _
      · exact (ih (List.pairwise_cons.1 h).2).cons₂ y
  exact List.Pairwise.sublist this h
theorem has_insK_iff (l : List Key) (k j : Key) : hasK (insK l k) j = (decide (j = k) || hasK l j) := by
  rw [Bool.eq_iff_iff]
  simp only [Bool.or_eq_true, decide_eq_true_eq, hasK_iff]
  unfold insK
  split
  · rename_i h
    rw [hasK_iff] at h
    exact ⟨.inr, fun h' => h'.elim (fun e => e ▸ h) id⟩
  · rw [(kput_perm l k).mem_iff]; simp
theorem has_remK_iff {l : List Key} (k j : Key) (h : distK l = true) : hasK (remK l k) j = (!decide (j = k) && hasK l j) := by
  by_cases e : j = k
  · subst e; rw [has_remK h]; simp
  · rw [Bool.eq_iff_iff]
    simp only [e, decide_false, Bool.not_false, Bool.true_and, hasK_iff]
    refine ⟨mem_remK_of, fun hm => ?_⟩
    clear h
    induction l with
    | nil => exact hm
    | cons y l ih =>
      unfold remK
      split
      · rename_i e2
        rcases List.mem_cons.1 hm with rfl | hm
        · exact absurd e2 e
        · exact hm
      · rcases List.mem_cons.1 hm with rfl | hm
        · exact List.mem_cons_self
        · exact List.mem_cons_of_mem _ (ih hm)
theorem filt_step {s : List Key} (hs : s.Nodup) (p : Key → Bool) (x : Key) : (s.filter fun k => p k || decide (x = k)).length = (s.filter p).length + if hasK s x && !p x then 1 else 0 := by
  induction s with
  | nil => rfl
  | cons y s ih =>
    rw [List.nodup_cons] at hs
    have ih := ih hs.2
    by_cases e : x = y
    · subst e
      have hn : hasK s x = false := by rw [Bool.eq_false_iff, ne_eq, hasK_iff]; exact hs.1
      rw [hn] at ih
      simp only [Bool.false_and, Bool.false_eq_true, if_false, Nat.add_zero] at ih
      have hc : hasK (x :: s) x = true := by rw [hasK_iff]; simp
      rw [hc]
      cases hp : p x <;> simp [List.filter_cons, hp, ih]
    · have hc : hasK (y :: s) x = hasK s x := by simp [hasK, Ne.symm e]
      rw [hc]
      have e' : decide (x = y) = false := by simpa using e
      simp only [List.filter_cons, e', Bool.or_false]
      cases p y <;> simp [ih] <;> omega
/-- how many of the first i stand for a key of s, at its first place -/
def cntK (s l : List Key) (i : Nat) : Nat := (s.filter fun k => hasK (l.take i) k).length
theorem cnt_zero (s l : List Key) : cntK s l 0 = 0 := by
  unfold cntK
  rw [List.length_eq_zero_iff, List.filter_eq_nil_iff]
  intro k _
  simp [hasK]
theorem cnt_step {s l : List Key} {i : Nat} (hs : distK s = true) (h : i < l.length) : cntK s l (i + 1) = cntK s l i + if hasK s l[i]! && !hasK (l.take i) l[i]! then 1 else 0 := by
  unfold distK at hs
  unfold cntK
  rw [← filt_step (by simpa using hs) (fun k => hasK (l.take i) k) l[i]!]
  congr 1
  apply List.filter_congr
  intro k _
  rw [hasK_take h]
theorem cnt_all {s l : List Key} (h : ∀ k ∈ s, k ∈ l) {n : Nat} (hn : l.length = n) : cntK s l n = s.length := by
  unfold cntK
  rw [take_all hn]
  congr 1
  rw [List.filter_eq_self]
  intro k hk
  rw [hasK_iff]; exact h k hk
theorem rise {s : List Key} (h : Srt kcmp s) (hd : distK s = true) {i : Nat} (h0 : 0 < i) (h1 : i < s.length) : klt s[i - 1]! s[i]! = true := by
  have h2 := srt_adj' h h0 h1
  unfold distK at hd
  simp only [decide_eq_true_eq] at hd
  unfold List.Nodup at hd
  rw [List.pairwise_iff_getElem] at hd
  have h3 := hd (i - 1) i (by omega) h1 (by omega)
  simp only [klt, decide_eq_true_eq]
  have h4 : ¬ kcmp s[i]! s[i - 1]! = 0 := by
    intro e
    have := kcmp_zero e
    rw [getElem!_pos s i h1, getElem!_pos s (i - 1) (by omega)] at this
    exact h3 this.symm
  rw [kcmp_swap]; omega
section
variable {σ : St} {A B : Option Addr} {n c m d : Nat} {xs : List Key} {bs : List Bool}
instance rule_KeysSets [h : SL σ A n c keyE xs] [g : SL σ B m d boolE bs] : CallRule Try.prog 7 [.slice A n c, .slice B m d] σ (fun K _ => ∀ σ', Nx σ σ' .no → K (.bool true) σ') := ⟨fun K E hK => by
  have hl := h.len
  have hbl := g.len
  have hbm := g.max
  by_cases hn : 200 < n
  · haveI : BV (decide ((200 : Int) < (n : Int))) true := ⟨by simp; omega⟩
    refine calls_enter Try.func7 rfl _ Try.ntmps7 rfl ?_
    (repeat (first | refine go ?_ | refine goR ?_ | refine goS (fun yc hyc => ?_) | refine goL (fun _ _ => inferInstance) ?_ | with_reducible intro _ | refine goO (by omega) ?_ | fail))
    exact back1 (σ0 := σ) Try.results7 (fun σ' _ _ => hK σ' inferInstance)
  haveI : BV (decide ((200 : Int) < (n : Int))) false := ⟨by simp; omega⟩
  refine calls_enter Try.func7 rfl _ Try.ntmps7 rfl ?_
  (repeat (first | refine go ?_ | refine goR ?_ | refine goS (fun yc hyc => ?_) | refine goL (fun _ _ => inferInstance) ?_ | with_reducible intro _ | refine goO (by omega) ?_ | fail))
  rename Option Addr => A0
  rename Nat => r0
  refine WC.freeze A0 (fun s1 hn1 hs1 => ?_)
  refine WC.loopW 2417851639229258282311600 (.map r0) (fun (i : Nat) f s => At f 7 (.int .i64 (i : Int)) ∧ i ≤ n ∧ ∃ A1 c1, ∃ ys : List Key, ∃ M : List (Key × Bool), At f 5 (.slice A1 ys.length c1) ∧ SL s A1 ys.length c1 keyE ys ∧ MapAt s r0 23 4 keyE boolE M ∧ distK ys = true ∧ Srt kcmp ys ∧ (∀ k, lookM M k false = hasK ys k) ∧ (∀ k ∈ ys, k ∈ xs.take i) ∧ ys.length ≤ i) (fun i => n - i) 0
    ⟨At.to (.int .i64 0) rfl, Nat.zero_le _, A0, 0, [], [], inferInstance, inferInstance, inferInstance, rfl, List.Pairwise.nil, fun k => rfl, by simp, Nat.le_refl _⟩ ?_
  · rintro i f s ha hs ⟨a7, hi, A1, c1, ys, M, a5, hr, hm, hd, hsr, hM, hin, hyl⟩
    by_cases hlt : i < n
    · haveI : BV (decide ((i : Int) < (n : Int))) true := ⟨by simpa using hlt⟩
      haveI : IdxLt i n := ⟨hlt⟩
      haveI : Fits .i64 ((i : Int) + 1) := Fits.i64 (by omega) (by omega)
      have hmem : xs[i]! ∈ xs.take (i + 1) := by rw [take_snoc (by omega)]; simp
      have hsub : ∀ k ∈ xs.take i, k ∈ xs.take (i + 1) := fun k hk => by rw [take_snoc (by omega)]; simp [hk]
      have hlen := len_insK ys xs[i]!
      have hlen2 := len_remK_le ys xs[i]!
      haveI : Is (lookM (putM M xs[i]! false) xs[i]! false) false := ⟨by rw [lookM_putM, if_pos rfl]⟩
      haveI : Is (lookM (putM M xs[i]! true) xs[i]! false) true := ⟨by rw [lookM_putM, if_pos rfl]⟩
      haveI : BV (hasK (insK ys xs[i]!) xs[i]!) true := ⟨has_insK _ _⟩
      haveI : BV (hasK (remK ys xs[i]!) xs[i]!) false := ⟨has_remK hd⟩
      have okI : ∀ k, lookM (putM M xs[i]! true) k false = hasK (insK ys xs[i]!) k := fun k => by
        rw [lookM_putM, has_insK_iff, hM]
        by_cases e : k = xs[i]! <;> simp [e]
      have okR : ∀ k, lookM (putM M xs[i]! false) k false = hasK (remK ys xs[i]!) k := fun k => by
        rw [lookM_putM, has_remK_iff _ _ hd, hM]
        by_cases e : k = xs[i]! <;> simp [e]
      have inI : ∀ k ∈ insK ys xs[i]!, k ∈ xs.take (i + 1) := fun k hk => by
        rw [← hasK_iff, has_insK_iff] at hk
        simp only [Bool.or_eq_true, decide_eq_true_eq] at hk
        rcases hk with rfl | hk
        · exact hmem
        · exact hsub k (hin k (hasK_iff.1 hk))
      have inR : ∀ k ∈ remK ys xs[i]!, k ∈ xs.take (i + 1) := fun k hk => hsub k (hin k (mem_remK_of hk))
      by_cases hb : i < m ∧ bs[i]! = true
      · haveI : BV (decide ((i : Int) < (m : Int))) true := ⟨by simp; omega⟩
        haveI : IdxLt i m := ⟨hb.1⟩
        haveI : BV bs[i]! true := ⟨hb.2⟩
        cases hh : hasK ys xs[i]! with
        | true =>
          haveI : Is (lookM M xs[i]! false) true := ⟨by rw [hM, hh]⟩
          haveI : BV (hasK ys xs[i]!) true := ⟨hh⟩
          (repeat (first | refine go ?_ | refine goR ?_ | refine goS (fun yc hyc => ?_) | refine goL (fun _ _ => inferInstance) ?_ | with_reducible intro _ | refine goO (by omega) ?_ | fail))
          refine WC.draw [] (.p 0 (.l 1 (.p 3 (.l 4 (.l 5 (.h 2 (.p 6 .nil))))))) mixed (by decide +kernel) ?_
          (repeat (first | refine go ?_ | refine goR ?_ | refine goS (fun yc hyc => ?_) | refine goL (fun _ _ => inferInstance) ?_ | with_reducible intro _ | refine goO (by omega) ?_ | fail))
          refine loop_w (i + 1) ⟨At.to (.int .i64 ((i : Int) + 1)) (by simp), hlt, _, _, remK ys xs[i]!, _, inferInstance, inferInstance, inferInstance, dist_remK hd, srt_remK _ hsr, okR, inR, by omega⟩ (by omega)
        | false =>
          haveI : Is (lookM M xs[i]! false) false := ⟨by rw [hM, hh]⟩
          haveI : BV (hasK ys xs[i]!) false := ⟨hh⟩
          (repeat (first | refine go ?_ | refine goR ?_ | refine goS (fun yc hyc => ?_) | refine goL (fun _ _ => inferInstance) ?_ | with_reducible intro _ | refine goO (by omega) ?_ | fail))
          refine WC.draw [] (.p 0 (.l 1 (.p 3 (.l 4 (.l 5 (.h 2 (.p 6 .nil))))))) mixed (by decide +kernel) ?_
          (repeat (first | refine go ?_ | refine goR ?_ | refine goS (fun yc hyc => ?_) | refine goL (fun _ _ => inferInstance) ?_ | with_reducible intro _ | refine goO (by omega) ?_ | fail))
          refine loop_w (i + 1) ⟨At.to (.int .i64 ((i : Int) + 1)) (by simp), hlt, _, _, remK ys xs[i]!, _, inferInstance, inferInstance, inferInstance, dist_remK hd, srt_remK _ hsr, okR, inR, by omega⟩ (by omega)
      · by_cases him : i < m
        · haveI : BV (decide ((i : Int) < (m : Int))) true := ⟨by simp; omega⟩
          haveI : IdxLt i m := ⟨him⟩
          haveI : BV bs[i]! false := ⟨by simpa [him] using hb⟩
          cases hh : hasK ys xs[i]! with
          | true =>
            haveI : Is (lookM M xs[i]! false) true := ⟨by rw [hM, hh]⟩
            haveI : BV (hasK ys xs[i]!) true := ⟨hh⟩
            (repeat (first | refine go ?_ | refine goR ?_ | refine goS (fun yc hyc => ?_) | refine goL (fun _ _ => inferInstance) ?_ | with_reducible intro _ | refine goO (by omega) ?_ | fail))
            refine WC.draw [] (.p 0 (.l 1 (.p 3 (.l 4 (.l 5 (.h 2 (.p 6 .nil))))))) mixed (by decide +kernel) ?_
            (repeat (first | refine go ?_ | refine goR ?_ | refine goS (fun yc hyc => ?_) | refine goL (fun _ _ => inferInstance) ?_ | with_reducible intro _ | refine goO (by omega) ?_ | fail))
            refine loop_w (i + 1) ⟨At.to (.int .i64 ((i : Int) + 1)) (by simp), hlt, _, _, insK ys xs[i]!, _, inferInstance, inferInstance, inferInstance, dist_insK _ hd, srt_insK _ hsr, okI, inI, by omega⟩ (by omega)
          | false =>
            haveI : Is (lookM M xs[i]! false) false := ⟨by rw [hM, hh]⟩
            haveI : BV (hasK ys xs[i]!) false := ⟨hh⟩
            (repeat (first | refine go ?_ | refine goR ?_ | refine goS (fun yc hyc => ?_) | refine goL (fun _ _ => inferInstance) ?_ | with_reducible intro _ | refine goO (by omega) ?_ | fail))
            refine WC.draw [] (.p 0 (.l 1 (.p 3 (.l 4 (.l 5 (.h 2 (.p 6 .nil))))))) mixed (by decide +kernel) ?_
            (repeat (first | refine go ?_ | refine goR ?_ | refine goS (fun yc hyc => ?_) | refine goL (fun _ _ => inferInstance) ?_ | with_reducible intro _ | refine goO (by omega) ?_ | fail))
            refine loop_w (i + 1) ⟨At.to (.int .i64 ((i : Int) + 1)) (by simp), hlt, _, _, insK ys xs[i]!, _, inferInstance, inferInstance, inferInstance, dist_insK _ hd, srt_insK _ hsr, okI, inI, by omega⟩ (by omega)
        · haveI : BV (decide ((i : Int) < (m : Int))) false := ⟨by simp; omega⟩
          cases hh : hasK ys xs[i]! with
          | true =>
            haveI : Is (lookM M xs[i]! false) true := ⟨by rw [hM, hh]⟩
            haveI : BV (hasK ys xs[i]!) true := ⟨hh⟩
            (repeat (first | refine go ?_ | refine goR ?_ | refine goS (fun yc hyc => ?_) | refine goL (fun _ _ => inferInstance) ?_ | with_reducible intro _ | refine goO (by omega) ?_ | fail))
            refine WC.draw [] (.p 0 (.l 1 (.p 3 (.l 4 (.l 5 (.h 2 (.p 6 .nil))))))) mixed (by decide +kernel) ?_
            (repeat (first | refine go ?_ | refine goR ?_ | refine goS (fun yc hyc => ?_) | refine goL (fun _ _ => inferInstance) ?_ | with_reducible intro _ | refine goO (by omega) ?_ | fail))
            refine loop_w (i + 1) ⟨At.to (.int .i64 ((i : Int) + 1)) (by simp), hlt, _, _, insK ys xs[i]!, _, inferInstance, inferInstance, inferInstance, dist_insK _ hd, srt_insK _ hsr, okI, inI, by omega⟩ (by omega)
          | false =>
            haveI : Is (lookM M xs[i]! false) false := ⟨by rw [hM, hh]⟩
            haveI : BV (hasK ys xs[i]!) false := ⟨hh⟩
            (repeat (first | refine go ?_ | refine goR ?_ | refine goS (fun yc hyc => ?_) | refine goL (fun _ _ => inferInstance) ?_ | with_reducible intro _ | refine goO (by omega) ?_ | fail))
            refine WC.draw [] (.p 0 (.l 1 (.p 3 (.l 4 (.l 5 (.h 2 (.p 6 .nil))))))) mixed (by decide +kernel) ?_
            (repeat (first | refine go ?_ | refine goR ?_ | refine goS (fun yc hyc => ?_) | refine goL (fun _ _ => inferInstance) ?_ | with_reducible intro _ | refine goO (by omega) ?_ | fail))
            refine loop_w (i + 1) ⟨At.to (.int .i64 ((i : Int) + 1)) (by simp), hlt, _, _, insK ys xs[i]!, _, inferInstance, inferInstance, inferInstance, dist_insK _ hd, srt_insK _ hsr, okI, inI, by omega⟩ (by omega)
    · haveI : BV (decide ((i : Int) < (n : Int))) false := ⟨by simpa using hlt⟩
      have e : i = n := by omega
      subst e
      rw [take_all hl] at hin
      (repeat (first | refine go ?_ | refine goR ?_ | refine goS (fun yc hyc => ?_) | refine goL (fun _ _ => inferInstance) ?_ | with_reducible intro _ | refine goO (by omega) ?_ | fail))
      refine WC.loopW 2596148426849562175035989815205904 .no (fun (j : Nat) f s => At f 13 (.int .i64 (j : Int)) ∧ j ≤ ys.length) (fun j => ys.length - j) 0 ⟨At.to (.int .i64 0) rfl, Nat.zero_le _⟩ ?_
      rintro j f s ha2 hs2 ⟨a13, hj⟩
      by_cases hlt2 : j < ys.length
      · haveI : BV (decide ((j : Int) < (ys.length : Int))) true := ⟨by simpa using hlt2⟩
        haveI : IdxLt j ys.length := ⟨hlt2⟩
        haveI : Fits .i64 ((j : Int) + 1) := Fits.i64 (by omega) (by omega)
        haveI : Is (lookM M ys[j]! false) true := ⟨by rw [hM, hasK_iff, getElem!_pos ys j hlt2]; exact List.getElem_mem _⟩
        by_cases hj0 : 0 < j
        · haveI : BV (decide (0 < (j : Int))) true := ⟨by simpa using hj0⟩
          haveI : IdxLt (j - 1) ys.length := ⟨by omega⟩
          haveI : LeN 1 j := ⟨hj0⟩
          haveI : Fits .i64 ((j : Int) - 1) := Fits.i64 (by omega) (by omega)
          haveI : BV (klt ys[j - 1]! ys[j]!) true := ⟨rise hsr hd hj0 hlt2⟩
          (repeat (first | refine go ?_ | refine goR ?_ | refine goS (fun yc hyc => ?_) | refine goL (fun _ _ => inferInstance) ?_ | with_reducible intro _ | refine goO (by omega) ?_ | fail))
          refine WC.draw [] (.p 0 (.p 1 (.p 2 (.l 3 (.l 4 (.l 5 (.p 6 (.p 7 (.p 8 (.p 9 (.p 10 (.p 11 (.p 12 (.p 13 (.l 14 (.l 15 (.p 16 (.p 17 (.l 18 (.l 19 (.h 20 (.p 21 (.p 22 (.p 23 .nil)))))))))))))))))))))))) mixed (by decide +kernel) ?_
          (repeat (first | refine go ?_ | refine goR ?_ | refine goS (fun yc hyc => ?_) | refine goL (fun _ _ => inferInstance) ?_ | with_reducible intro _ | refine goO (by omega) ?_ | fail))
          refine loop_w (j + 1) ⟨At.to (.int .i64 ((j : Int) + 1)) (by simp), hlt2⟩ (by omega)
        · haveI : BV (decide (0 < (j : Int))) false := ⟨by simpa using hj0⟩
          (repeat (first | refine go ?_ | refine goR ?_ | refine goS (fun yc hyc => ?_) | refine goL (fun _ _ => inferInstance) ?_ | with_reducible intro _ | refine goO (by omega) ?_ | fail))
          refine WC.draw [] (.p 0 (.p 1 (.p 2 (.l 3 (.l 4 (.l 5 (.p 6 (.p 7 (.p 8 (.p 9 (.p 10 (.p 11 (.p 12 (.p 13 (.l 14 (.l 15 (.p 16 (.p 17 (.l 18 (.l 19 (.h 20 (.p 21 (.p 22 (.p 23 .nil)))))))))))))))))))))))) mixed (by decide +kernel) ?_
          (repeat (first | refine go ?_ | refine goR ?_ | refine goS (fun yc hyc => ?_) | refine goL (fun _ _ => inferInstance) ?_ | with_reducible intro _ | refine goO (by omega) ?_ | fail))
          refine loop_w (j + 1) ⟨At.to (.int .i64 ((j : Int) + 1)) (by simp), hlt2⟩ (by omega)
      haveI : BV (decide ((j : Int) < (ys.length : Int))) false := ⟨by simpa using hlt2⟩
      (repeat (first | refine go ?_ | refine goR ?_ | refine goS (fun yc hyc => ?_) | refine goL (fun _ _ => inferInstance) ?_ | with_reducible intro _ | refine goO (by omega) ?_ | fail))
      refine WC.loopW 87112283335611817379210085237284497571840 .no (fun (q : Nat) f s => At f 15 (.int .i64 (q : Int)) ∧ At f 14 (.int .i64 (cntK ys xs q : Int)) ∧ q ≤ i ∧ cntK ys xs q ≤ q) (fun q => i - q) 0 ⟨At.to (.int .i64 0) rfl, At.to (.int .i64 0) (by rw [cnt_zero]; rfl), Nat.zero_le _, by rw [cnt_zero]; exact Nat.le_refl _⟩ ?_
      rintro q f s ha3 hs3 ⟨a15, a14, hq, hcq⟩
      by_cases hlt3 : q < i
      · haveI : BV (decide ((q : Int) < (i : Int))) true := ⟨by simpa using hlt3⟩
        haveI : IdxLt q i := ⟨hlt3⟩
        haveI : Fits .i64 ((q : Int) + 1) := Fits.i64 (by omega) (by omega)
        haveI : Fits .i64 ((cntK ys xs q : Int) + 1) := Fits.i64 (by omega) (by omega)
        have hst := cnt_step (l := xs) hd (show q < xs.length by omega)
        have e0 : (xs.drop 0).take (q - 0) = xs.take q := by simp
        cases h1 : hasK ys xs[q]! with
        | true =>
          haveI : Is (lookM M xs[q]! false) true := ⟨by rw [hM, h1]⟩
          cases h2 : hasK (xs.take q) xs[q]! with
          | true =>
            haveI : BV (hasK ((xs.drop 0).take (q - 0)) xs[q]!) true := ⟨by rw [e0]; exact h2⟩
            simp only [h1, h2, Bool.not_true, Bool.and_false, Bool.false_eq_true, if_false, Nat.add_zero] at hst
            (repeat (first | refine go ?_ | refine goR ?_ | refine goS (fun yc hyc => ?_) | refine goL (fun _ _ => inferInstance) ?_ | with_reducible intro _ | refine goO (by omega) ?_ | fail))
            refine WC.draw [] (.p 0 (.p 1 (.p 2 (.l 3 (.l 4 (.l 5 (.p 6 (.p 7 (.p 8 (.l 9 (.p 10 (.p 11 (.l 12 (.l 13 (.h 14 (.p 15 (.p 16 .nil))))))))))))))))) mixed (by decide +kernel) ?_
            (repeat (first | refine go ?_ | refine goR ?_ | refine goS (fun yc hyc => ?_) | refine goL (fun _ _ => inferInstance) ?_ | with_reducible intro _ | refine goO (by omega) ?_ | fail))
            refine loop_w (q + 1) ⟨At.to (.int .i64 ((q : Int) + 1)) (by simp), by rw [hst]; infer_instance, hlt3, by omega⟩ (by omega)
          | false =>
            haveI : BV (hasK ((xs.drop 0).take (q - 0)) xs[q]!) false := ⟨by rw [e0]; exact h2⟩
            simp only [h1, h2, Bool.not_false, Bool.and_true, if_true] at hst
            (repeat (first | refine go ?_ | refine goR ?_ | refine goS (fun yc hyc => ?_) | refine goL (fun _ _ => inferInstance) ?_ | with_reducible intro _ | refine goO (by omega) ?_ | fail))
            refine WC.draw [] (.p 0 (.p 1 (.p 2 (.l 3 (.l 4 (.l 5 (.p 6 (.p 7 (.p 8 (.l 9 (.p 10 (.p 11 (.l 12 (.l 13 (.h 14 (.p 15 (.p 16 .nil))))))))))))))))) mixed (by decide +kernel) ?_
            (repeat (first | refine go ?_ | refine goR ?_ | refine goS (fun yc hyc => ?_) | refine goL (fun _ _ => inferInstance) ?_ | with_reducible intro _ | refine goO (by omega) ?_ | fail))
            refine loop_w (q + 1) ⟨At.to (.int .i64 ((q : Int) + 1)) (by simp), by rw [hst]; exact At.to (.int .i64 ((cntK ys xs q : Int) + 1)) (by simp), hlt3, by omega⟩ (by omega)
        | false =>
          haveI : Is (lookM M xs[q]! false) false := ⟨by rw [hM, h1]⟩
          simp only [h1, Bool.false_and, Bool.false_eq_true, if_false, Nat.add_zero] at hst
          (repeat (first | refine go ?_ | refine goR ?_ | refine goS (fun yc hyc => ?_) | refine goL (fun _ _ => inferInstance) ?_ | with_reducible intro _ | refine goO (by omega) ?_ | fail))
          refine WC.draw [] (.p 0 (.p 1 (.p 2 (.l 3 (.l 4 (.l 5 (.p 6 (.p 7 (.p 8 (.l 9 (.p 10 (.p 11 (.l 12 (.l 13 (.h 14 (.p 15 (.p 16 .nil))))))))))))))))) mixed (by decide +kernel) ?_
          (repeat (first | refine go ?_ | refine goR ?_ | refine goS (fun yc hyc => ?_) | refine goL (fun _ _ => inferInstance) ?_ | with_reducible intro _ | refine goO (by omega) ?_ | fail))
          refine loop_w (q + 1) ⟨At.to (.int .i64 ((q : Int) + 1)) (by simp), by rw [hst]; infer_instance, hlt3, by omega⟩ (by omega)
      haveI : BV (decide ((q : Int) < (i : Int))) false := ⟨by simpa using hlt3⟩
      have e : q = i := by omega
      subst e
      rw [cnt_all hin hl] at a14
      haveI : BV (distK ys) true := ⟨hd⟩
      (repeat (first | refine go ?_ | refine goR ?_ | refine goS (fun yc hyc => ?_) | refine goL (fun _ _ => inferInstance) ?_ | with_reducible intro _ | refine goO (by omega) ?_ | fail))
      exact back1 (σ0 := σ) Try.results7 (fun σ' _ _ => hK σ' inferInstance)⟩
end
end Go.Proofs.Ytlidbnmdhnfolaa
