/- keys.Meet, the reference's Has, by contract. No condition. -/
import Derived.Test.YthdhnkgnbdociaaSrb
import Derived.Test.YthdhnkgnbdociaaK2
set_option linter.all false
set_option maxHeartbeats 40000000
set_option synthInstance.maxHeartbeats 2000000
set_option synthInstance.maxSize 100000
namespace Go.Proofs.Ythdhnkgnbdociaa
open Go Go.RowKit
def hasK (l : List Key) (k : Key) : Bool := l.any fun x => decide (x = k)
def meetK (l m : List Key) : Bool := l.any fun x => hasK m x
theorem hasK_iff {l : List Key} {k : Key} : hasK l k = true ↔ k ∈ l := by
  simp [hasK]
theorem meetK_iff {l m : List Key} : meetK l m = true ↔ ∃ k, k ∈ l ∧ k ∈ m := by
  simp [meetK, hasK_iff]
theorem hasK_take {l : List Key} {k : Key} {i : Nat} (h : i < l.length) : hasK (l.take (i + 1)) k = (hasK (l.take i) k || decide (l[i]! = k)) := by
  unfold hasK
  rw [List.take_succ_eq_append_getElem h, List.any_append, getElem!_pos l i h]
  simp only [List.any_cons, List.any_nil, Bool.or_false]
theorem meet_step_lt {u v : List Key} {a b : Key} (hv : Srt kcmp (b :: v)) (h : kcmp a b < 0) : meetK (a :: u) (b :: v) = meetK u (b :: v) := by
  rw [Bool.eq_iff_iff, meetK_iff, meetK_iff]
  refine ⟨?_, fun ⟨k, h1, h2⟩ => ⟨k, List.mem_cons_of_mem _ h1, h2⟩⟩
  rintro ⟨k, h1, h2⟩
  rcases List.mem_cons.1 h1 with rfl | h1
  · exfalso
    rcases List.mem_cons.1 h2 with rfl | h2
    · rw [kcmp_self] at h; omega
    · exact (List.pairwise_cons.1 hv).1 k h2 h
  · exact ⟨k, h1, h2⟩
theorem meetK_comm (l m : List Key) : meetK l m = meetK m l := by
  rw [Bool.eq_iff_iff, meetK_iff, meetK_iff]
  exact ⟨fun ⟨k, h1, h2⟩ => ⟨k, h2, h1⟩, fun ⟨k, h1, h2⟩ => ⟨k, h2, h1⟩⟩
theorem meetK_sort (l m : List Key) : meetK (ksort l) (ksort m) = meetK l m := by
  rw [Bool.eq_iff_iff, meetK_iff, meetK_iff]
  simp [ksort_mem]
theorem cons_of {l : List Key} (h : 0 < l.length) : l = l[0]! :: l.drop 1 := by
  match l, h with
  | a :: l, _ => rfl
section
variable {σ : St} {A B : Option Addr} {n c m d : Nat} {xs ys : List Key}
instance rule_ref_Has [h : SL σ A n c keyE xs] {k : Key} {bb : Bool} [q : BV (hasK xs k) bb] : CallRule Try.prog 53 [.slice A n c, .agg (kc k)] σ (fun K _ => ∀ σ', Nx σ σ' .no → K (.bool bb) σ') := ⟨fun K E hK => by
  have hq := q.eq; subst hq
  have hl := h.len
  have hm := h.max
  refine calls_enter Try.func53 rfl _ Try.ntmps53 rfl ?_
  (repeat (first | refine go ?_ | refine goR ?_ | refine goS (fun yc hyc => ?_) | refine goL (fun _ _ => inferInstance) ?_ | with_reducible intro _ | refine goO (by first | omega | (simp only [List.length_cons, List.length_nil]; omega)) ?_ | fail))
  refine WC.loop (fun (i : Nat) f s => At f 0 (.slice A n c) ∧ (∃ b, At f 3 (.pointer (some ⟨b, 0, none⟩)) ∧ Own s b 26 (kc k)) ∧ At f 5 (.int .i64 (i : Int)) ∧ Nx σ s .no ∧ i ≤ n ∧ hasK (xs.take i) k = false) (fun i => n - i) 0
    ⟨inferInstance, ⟨_, inferInstance, inferInstance⟩, At.to (.int .i64 0) rfl, Sub.nx (σ0 := σ) inferInstance, Nat.zero_le _, rfl⟩ ?_
  rintro i f s ⟨a0, ⟨b, a3, ho⟩, a5, hs, hi, hf⟩
  (repeat (first | refine go ?_ | refine goR ?_ | refine goS (fun yc hyc => ?_) | refine goL (fun _ _ => inferInstance) ?_ | with_reducible intro _ | refine goO (by first | omega | (simp only [List.length_cons, List.length_nil]; omega)) ?_ | fail))
  refine WC.cond ?_ ?_ <;> intro hb
  · have hlt : i < n := by simpa using hb
    haveI : IdxLt i n := ⟨hlt⟩
    haveI : Fits .i64 ((i : Int) + 1) := Fits.i64 (by omega) (by omega)
    (repeat (first | refine go ?_ | refine goR ?_ | refine goS (fun yc hyc => ?_) | refine goL (fun _ _ => inferInstance) ?_ | with_reducible intro _ | refine goO (by first | omega | (simp only [List.length_cons, List.length_nil]; omega)) ?_ | fail))
    refine WC.draw [] (.p 0 (.p 1 (.l 2 (.l 3 (.l 4 (.p 5 .nil)))))) mixed (by decide +kernel) ?_
    (repeat (first | refine go ?_ | refine goR ?_ | refine goS (fun yc hyc => ?_) | refine goL (fun _ _ => inferInstance) ?_ | with_reducible intro _ | refine goO (by first | omega | (simp only [List.length_cons, List.length_nil]; omega)) ?_ | fail))
    refine WC.cond ?_ ?_ <;> intro he
    · (repeat (first | refine go ?_ | refine goR ?_ | refine goS (fun yc hyc => ?_) | refine goL (fun _ _ => inferInstance) ?_ | with_reducible intro _ | refine goO (by first | omega | (simp only [List.length_cons, List.length_nil]; omega)) ?_ | fail))
      have he : xs[i]! = k := by simpa using he
      have : hasK xs k = true := hasK_iff.2 (by rw [← he, getElem!_pos xs i (by omega)]; exact List.getElem_mem _)
      rw [this] at hK
      exact back1 (σ0 := σ) Try.results53 (fun σ' _ _ => hK σ' inferInstance)
    · (repeat (first | refine go ?_ | refine goR ?_ | refine goS (fun yc hyc => ?_) | refine goL (fun _ _ => inferInstance) ?_ | with_reducible intro _ | refine goO (by first | omega | (simp only [List.length_cons, List.length_nil]; omega)) ?_ | fail))
      have he : ¬ xs[i]! = k := by simpa using he
      refine loop_n (i + 1) ⟨inferInstance, ⟨_, inferInstance, inferInstance⟩, At.to (.int .i64 ((i : Int) + 1)) (by simp), Sub.nx (σ0 := σ) inferInstance, hlt, by rw [hasK_take (by omega), hf]; simpa using he⟩ (by omega)
  · have : i = n := by have := hb; simp at this; omega
    subst this
    (repeat (first | refine go ?_ | refine goR ?_ | refine goS (fun yc hyc => ?_) | refine goL (fun _ _ => inferInstance) ?_ | with_reducible intro _ | refine goO (by first | omega | (simp only [List.length_cons, List.length_nil]; omega)) ?_ | fail))
    rw [List.take_of_length_le (by omega)] at hf
    rw [hf] at hK
    exact back1 (σ0 := σ) Try.results53 (fun σ' _ _ => hK σ' inferInstance)⟩

instance rule_keys_Meet [h : SL σ A n c keyE xs] [g : SL σ B m d keyE ys] {bb : Bool} [q : BV (meetK xs ys) bb] : CallRule Try.prog 29 [.slice A n c, .slice B m d] σ (fun K _ => (n ≤ 4398046511104 ∧ m ≤ 4398046511104) ∧ ∀ σ', Nx σ σ' .no → K (.bool bb) σ') := ⟨fun K E hK => by
  have hq := q.eq; subst hq
  obtain ⟨hn, hK⟩ := hK
  refine calls_enter Try.func29 rfl _ Try.ntmps29 rfl ?_
  (repeat (first | refine go ?_ | refine goR ?_ | refine goS (fun yc hyc => ?_) | refine goL (fun _ _ => inferInstance) ?_ | with_reducible intro _ | refine goO (by first | omega | (simp only [List.length_cons, List.length_nil]; omega)) ?_ | fail))
  rename_i s1 A1 c1 _ hx s2 B1 d1 _ hy
  refine WC.loop (fun (uv : List Key × List Key) f s => Nx σ s .no ∧ (∃ A n c B m d, At f 5 (.slice A n c) ∧ At f 6 (.slice B m d) ∧ SL s A n c keyE uv.1 ∧ SL s B m d keyE uv.2) ∧ Srt kcmp uv.1 ∧ Srt kcmp uv.2 ∧ meetK uv.1 uv.2 = meetK xs ys) (fun uv => uv.1.length + uv.2.length) (ksort xs, ksort ys)
    ⟨Sub.nx (σ0 := σ) inferInstance, ⟨_, _, _, _, _, _, inferInstance, inferInstance, inferInstance, inferInstance⟩, ksort_srt _, ksort_srt _, meetK_sort _ _⟩ ?_
  rintro ⟨u, v⟩ f s ⟨hs, ⟨A, n, c, B, m, d, a5, a6, hu, hv⟩, su, sv, he⟩
  have lu := hu.len
  have lv := hv.len
  simp only at lu lv su sv he hu hv
  have hK' : ∀ σ' : St, Nx σ σ' .no → K (.bool (meetK u v)) σ' := by rw [he]; exact hK
  by_cases hnm : 0 < n ∧ 0 < m
  · haveI : BV (decide ((0 : Int) < (n : Int))) true := ⟨by simp; omega⟩
    haveI : BV (decide ((0 : Int) < (m : Int))) true := ⟨by simp; omega⟩
    haveI : IdxLt 0 n := ⟨hnm.1⟩
    haveI : IdxLt 0 m := ⟨hnm.2⟩
    haveI : LeN 1 n := ⟨hnm.1⟩
    haveI : LeN 1 m := ⟨hnm.2⟩
    have eu := cons_of (l := u) (by omega)
    have ev := cons_of (l := v) (by omega)
    have su' := su
    have sv' := sv
    rw [eu] at su'
    rw [ev] at sv'
    (repeat (first | refine go ?_ | refine goR ?_ | refine goS (fun yc hyc => ?_) | refine goL (fun _ _ => inferInstance) ?_ | with_reducible intro _ | refine goO (by first | omega | (simp only [List.length_cons, List.length_nil]; omega)) ?_ | fail))
    refine WC.draw [] (.p 0 (.l 1 (.l 2 (.p 3 (.l 4 (.l 5 (.h 6 (.p 7 .nil)))))))) mixed (by decide +kernel) ?_
    rcases kcmp_cases u[0]! v[0]! with h0 | h0 | h0
    · haveI : BV (decide (kcmp u[0]! v[0]! = 0)) false := ⟨by rw [h0]; rfl⟩
      haveI : BV (decide (kcmp u[0]! v[0]! < 0)) true := ⟨by rw [h0]; rfl⟩
      (repeat (first | refine go ?_ | refine goR ?_ | refine goS (fun yc hyc => ?_) | refine goL (fun _ _ => inferInstance) ?_ | with_reducible intro _ | refine goO (by first | omega | (simp only [List.length_cons, List.length_nil]; omega)) ?_ | fail))
      refine loop_n ((u.drop 1).take (n - 1), v) ⟨Sub.nx (σ0 := σ) inferInstance, ⟨_, _, _, _, _, _, inferInstance, inferInstance, (inferInstance : SL _ (cutA keyE A 1 n c) (n - 1) (c - 1) keyE ((u.drop 1).take (n - 1))), inferInstance⟩, ?_, sv, ?_⟩ (by simp; omega)
      · rw [List.take_of_length_le (by simp; omega)]; exact (List.pairwise_cons.1 su').2
      · rw [List.take_of_length_le (by simp; omega), ← he]
        have := meet_step_lt (u := u.drop 1) sv' (show kcmp u[0]! v[0]! < 0 by omega)
        rw [← eu, ← ev] at this
        exact this.symm
    · haveI : BV (decide (kcmp u[0]! v[0]! = 0)) true := ⟨by rw [h0]; rfl⟩
      (repeat (first | refine go ?_ | refine goR ?_ | refine goS (fun yc hyc => ?_) | refine goL (fun _ _ => inferInstance) ?_ | with_reducible intro _ | refine goO (by first | omega | (simp only [List.length_cons, List.length_nil]; omega)) ?_ | fail))
      have e0 := kcmp_zero h0
      have : meetK u v = true := meetK_iff.2 ⟨u[0]!, by rw [getElem!_pos u 0 (by omega)]; exact List.getElem_mem _, by rw [e0, getElem!_pos v 0 (by omega)]; exact List.getElem_mem _⟩
      rw [this] at hK'
      exact back1 (σ0 := σ) Try.results29 (fun σ' _ _ => hK' σ' inferInstance)
    · haveI : BV (decide (kcmp u[0]! v[0]! = 0)) false := ⟨by rw [h0]; rfl⟩
      haveI : BV (decide (kcmp u[0]! v[0]! < 0)) false := ⟨by rw [h0]; rfl⟩
      (repeat (first | refine go ?_ | refine goR ?_ | refine goS (fun yc hyc => ?_) | refine goL (fun _ _ => inferInstance) ?_ | with_reducible intro _ | refine goO (by first | omega | (simp only [List.length_cons, List.length_nil]; omega)) ?_ | fail))
      refine loop_n (u, (v.drop 1).take (m - 1)) ⟨Sub.nx (σ0 := σ) inferInstance, ⟨_, _, _, _, _, _, inferInstance, inferInstance, inferInstance, (inferInstance : SL _ (cutA keyE B 1 m d) (m - 1) (d - 1) keyE ((v.drop 1).take (m - 1)))⟩, su, ?_, ?_⟩ (by simp; omega)
      · rw [List.take_of_length_le (by simp; omega)]; exact (List.pairwise_cons.1 sv').2
      · rw [List.take_of_length_le (by simp; omega), ← he]
        have := meet_step_lt (u := v.drop 1) su' (show kcmp v[0]! u[0]! < 0 by rw [kcmp_swap]; omega)
        rw [← eu, ← ev] at this
        rw [meetK_comm u, meetK_comm u]
        exact this.symm
  · have : meetK u v = false := by
      rcases Nat.eq_zero_or_pos n with h0 | h0
      · have : u = [] := List.eq_nil_of_length_eq_zero (by omega)
        subst this; rfl
      · have : v = [] := List.eq_nil_of_length_eq_zero (by omega)
        subst this; rw [meetK_comm]; rfl
    rw [this] at hK'
    rcases Nat.eq_zero_or_pos n with h0 | h0
    · haveI : BV (decide ((0 : Int) < (n : Int))) false := ⟨by simp; omega⟩
      (repeat (first | refine go ?_ | refine goR ?_ | refine goS (fun yc hyc => ?_) | refine goL (fun _ _ => inferInstance) ?_ | with_reducible intro _ | refine goO (by first | omega | (simp only [List.length_cons, List.length_nil]; omega)) ?_ | fail))
      exact back1 (σ0 := σ) Try.results29 (fun σ' _ _ => hK' σ' inferInstance)
    · haveI : BV (decide ((0 : Int) < (n : Int))) true := ⟨by simp; omega⟩
      haveI : BV (decide ((0 : Int) < (m : Int))) false := ⟨by simp; omega⟩
      (repeat (first | refine go ?_ | refine goR ?_ | refine goS (fun yc hyc => ?_) | refine goL (fun _ _ => inferInstance) ?_ | with_reducible intro _ | refine goO (by first | omega | (simp only [List.length_cons, List.length_nil]; omega)) ?_ | fail))
      exact back1 (σ0 := σ) Try.results29 (fun σ' _ _ => hK' σ' inferInstance)⟩
end
end Go.Proofs.Ythdhnkgnbdociaa
