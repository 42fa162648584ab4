/- Plain facts on sets of keys. No condition. -/
import Derived.Test.YtlcpjfeomlegpaaKm
set_option linter.all false
set_option maxHeartbeats 4000000
namespace Go.Proofs.Ytlcpjfeomlegpaa
open Go Go.RowKit
theorem has_insK (l : List Key) (k : Key) : hasK (insK l k) k = true := by
  unfold insK
  split
  · assumption
  · rw [hasK_iff, (kput_perm l k).mem_iff]; simp
theorem dist_insK {l : List Key} (k : Key) (h : distK l = true) : distK (insK l k) = true := by
  unfold insK
  cases hh : hasK l k with
  | true => simpa using h
  | false =>
    unfold distK at *
    simp only [Bool.false_eq_true, if_false, decide_eq_true_eq] at *
    rw [(kput_perm l k).nodup_iff, List.nodup_cons]
    refine ⟨fun hm => ?_, h⟩
    rw [← hasK_iff, hh] at hm; cases hm
theorem insK_insK (l : List Key) (k : Key) : insK (insK l k) k = insK l k := by
  show (if hasK (insK l k) k then insK l k else kput (insK l k) k) = insK l k
  rw [if_pos (has_insK l k)]
theorem len_remK : ∀ (l : List Key) (k : Key), hasK l k = true → (remK l k).length + 1 = l.length
  | [], k, h => by simp [hasK] at h
  | x :: l, k, h => by
    unfold remK
    by_cases e : x = k
    · simp [e]
    · have h2 : hasK l k = true := by simpa [hasK, e] using h
      rw [if_neg e, List.length_cons, List.length_cons, len_remK l k h2]
theorem len_remK_le (l : List Key) (k : Key) : (remK l k).length ≤ l.length := by
  cases h : hasK l k with
  | true => have := len_remK l k h; omega
  | false => rw [remK_not l k h]; exact Nat.le_refl _
theorem mem_remK_of {l : List Key} {k x : Key} (h : x ∈ remK l k) : x ∈ l := by
  induction l with
  | nil => exact h
  | cons y l ih =>
    unfold remK at h
    split at h
    · exact List.mem_cons_of_mem _ h
    · rcases List.mem_cons.1 h with rfl | h
      · exact List.mem_cons_self
      · exact List.mem_cons_of_mem _ (ih h)
theorem has_remK {l : List Key} {k : Key} (h : distK l = true) : hasK (remK l k) k = false := by
  rw [Bool.eq_false_iff, ne_eq, hasK_iff]
  unfold distK at h
  simp only [decide_eq_true_eq] at h
  induction l with
  | nil => simp [remK]
  | cons y l ih =>
    rw [List.nodup_cons] at h
    unfold remK
    split
    · rename_i e; subst e; exact h.1
    · rename_i e
      intro hm
      rcases List.mem_cons.1 hm with rfl | hm
      · exact e rfl
      · exact ih h.2 hm
theorem dist_remK {l : List Key} {k : Key} (h : distK l = true) : distK (remK l k) = true := by
  unfold distK at *
  simp only [decide_eq_true_eq] at *
  induction l with
  | nil => exact h
  | cons y l ih =>
    rw [List.nodup_cons] at h
    unfold remK
    split
    · exact h.2
    · rw [List.nodup_cons]; exact ⟨fun hm => h.1 (mem_remK_of hm), ih h.2⟩
theorem len_insK (l : List Key) (k : Key) : (insK l k).length ≤ l.length + 1 := by
  unfold insK
  split
  · omega
  · rw [(kput_perm l k).length_eq]; simp
theorem srt_insK {l : List Key} (k : Key) (h : Srt kcmp l) : Srt kcmp (insK l k) := by
  unfold insK
  split
  · exact h
  · exact kput_srt h
theorem srt_remK {l : List Key} (k : Key) (h : Srt kcmp l) : Srt kcmp (remK l k) := by
  have : (remK l k).Sublist l := by
    induction l with
    | nil => exact List.Sublist.refl _
    | cons y l ih =>
      unfold remK
      split
      · exact List.sublist_cons_self _ _
      · exact (ih (List.pairwise_cons.1 h).2).cons₂ y
  exact List.Pairwise.sublist this h
theorem has_insK_iff (l : List Key) (k j : Key) : hasK (insK l k) j = (decide (j = k) || hasK l j) := by
  rw [Bool.eq_iff_iff]
  simp only [Bool.or_eq_true, decide_eq_true_eq, hasK_iff]
  unfold insK
  split
  · rename_i h
    rw [hasK_iff] at h
    exact ⟨.inr, fun h' => h'.elim (fun e => e ▸ h) id⟩
  · rw [(kput_perm l k).mem_iff]; simp
theorem has_remK_iff {l : List Key} (k j : Key) (h : distK l = true) : hasK (remK l k) j = (!decide (j = k) && hasK l j) := by
  by_cases e : j = k
  · subst e; rw [has_remK h]; simp
  · rw [Bool.eq_iff_iff]
    simp only [e, decide_false, Bool.not_false, Bool.true_and, hasK_iff]
    refine ⟨mem_remK_of, fun hm => ?_⟩
    clear h
    induction l with
    | nil => exact hm
    | cons y l ih =>
      unfold remK
      split
      · rename_i e2
        rcases List.mem_cons.1 hm with rfl | hm
        · exact absurd e2 e
        · exact hm
      · rcases List.mem_cons.1 hm with rfl | hm
        · exact List.mem_cons_self
        · exact List.mem_cons_of_mem _ (ih hm)
theorem filt_step {s : List Key} (hs : s.Nodup) (p : Key → Bool) (x : Key) : (s.filter fun k => p k || decide (x = k)).length = (s.filter p).length + if hasK s x && !p x then 1 else 0 := by
  induction s with
  | nil => rfl
  | cons y s ih =>
    rw [List.nodup_cons] at hs
    have ih := ih hs.2
    by_cases e : x = y
    · subst e
      have hn : hasK s x = false := by rw [Bool.eq_false_iff, ne_eq, hasK_iff]; exact hs.1
      rw [hn] at ih
      simp only [Bool.false_and, Bool.false_eq_true, if_false, Nat.add_zero] at ih
      have hc : hasK (x :: s) x = true := by rw [hasK_iff]; simp
      rw [hc]
      cases hp : p x <;> simp [List.filter_cons, hp, ih]
    · have hc : hasK (y :: s) x = hasK s x := by simp [hasK, Ne.symm e]
      rw [hc]
      have e' : decide (x = y) = false := by simpa using e
      simp only [List.filter_cons, e', Bool.or_false]
      cases p y <;> simp [ih] <;> omega
/-- how many of the first i stand for a key of s, at its first place -/
def cntK (s l : List Key) (i : Nat) : Nat := (s.filter fun k => hasK (l.take i) k).length
theorem cnt_zero (s l : List Key) : cntK s l 0 = 0 := by
  unfold cntK
  rw [List.length_eq_zero_iff, List.filter_eq_nil_iff]
  intro k _
  simp [hasK]
theorem cnt_step {s l : List Key} {i : Nat} (hs : distK s = true) (h : i < l.length) : cntK s l (i + 1) = cntK s l i + if hasK s l[i]! && !hasK (l.take i) l[i]! then 1 else 0 := by
  unfold distK at hs
  unfold cntK
  rw [← filt_step (by simpa using hs) (fun k => hasK (l.take i) k) l[i]!]
  congr 1
  apply List.filter_congr
  intro k _
  rw [hasK_take h]
theorem cnt_all {s l : List Key} (h : ∀ k ∈ s, k ∈ l) {n : Nat} (hn : l.length = n) : cntK s l n = s.length := by
  unfold cntK
  rw [take_all hn]
  congr 1
  rw [List.filter_eq_self]
  intro k hk
  rw [hasK_iff]; exact h k hk
theorem rise {s : List Key} (h : Srt kcmp s) (hd : distK s = true) {i : Nat} (h0 : 0 < i) (h1 : i < s.length) : klt s[i - 1]! s[i]! = true := by
  have h2 := srt_adj' h h0 h1
  unfold distK at hd
  simp only [decide_eq_true_eq] at hd
  unfold List.Nodup at hd
  rw [List.pairwise_iff_getElem] at hd
  have h3 := hd (i - 1) i (by omega) h1 (by omega)
  simp only [klt, decide_eq_true_eq]
  have h4 : ¬ kcmp s[i]! s[i - 1]! = 0 := by
    intro e
    have := kcmp_zero e
    rw [getElem!_pos s i h1, getElem!_pos s (i - 1) (by omega)] at this
    exact h3 this.symm
  rw [kcmp_swap]; omega
/-- what rises is told by what is in it -/
theorem eq_of_has : ∀ {a b : List Key}, Srt kcmp a → distK a = true → Srt kcmp b → distK b = true → (∀ k, hasK a k = hasK b k) → a = b := by
  intro a
  induction a with
  | nil =>
    intro b _ _ _ _ h
    cases b with
    | nil => rfl
    | cons y b => have := h y; simp [hasK] at this
  | cons x a ih =>
    intro b ha da hb db h
    cases b with
    | nil => have := h x; simp [hasK] at this
    | cons y b =>
      have ha' := List.pairwise_cons.1 ha
      have hb' := List.pairwise_cons.1 hb
      unfold distK at da db
      simp only [decide_eq_true_eq, List.nodup_cons] at da db
      have hxy : x = y := by
        rcases Decidable.em (x = y) with e | e
        · exact e
        · exfalso
          have h1 : x ∈ b := by
            have := h x
            rw [show hasK (x :: a) x = true by simp [hasK]] at this
            have := hasK_iff.1 this.symm
            rcases List.mem_cons.1 this with rfl | h2
            · exact absurd rfl e
            · exact h2
          have h2 : y ∈ a := by
            have := h y
            rw [show hasK (y :: b) y = true by simp [hasK]] at this
            have := hasK_iff.1 this
            rcases List.mem_cons.1 this with rfl | h2
            · exact absurd rfl e
            · exact h2
          have h3 := ha'.1 y h2
          have h4 := hb'.1 x h1
          have h5 := kcmp_swap x y
          exact e (kcmp_zero (by omega))
      subst hxy
      rw [ih ha'.2 (by unfold distK; simpa using da.2) hb'.2 (by unfold distK; simpa using db.2) (fun k => ?_)]
      have := h k
      by_cases e : k = x
      · subst e
        have h1 : hasK a k = false := by rw [Bool.eq_false_iff, ne_eq, hasK_iff]; exact da.1
        have h2 : hasK b k = false := by rw [Bool.eq_false_iff, ne_eq, hasK_iff]; exact db.1
        rw [h1, h2]
      · simpa [hasK, Ne.symm e] using this
end Go.Proofs.Ytlcpjfeomlegpaa
