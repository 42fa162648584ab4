/- Plain facts on lists of keys: put, taken off, distinct. No condition. -/
import Derived.Test.YthdhnkgnbdociaaK3
import Derived.Test.YthdhnkgnbdociaaFnv
namespace Go.Proofs.Ythdhnkgnbdociaa
set_option linter.all false
open Go
def placeI (l : List Key) (k : Key) : Nat := match l.findIdx? (fun x => decide (x = k)) with
  | some i => i
  | none => (l.findIdx? fun x => klt k x).getD l.length
def insK (l : List Key) (k : Key) : List Key := if hasK l k then l else kput l k
def remK : List Key → Key → List Key
  | [], _ => []
  | x :: l, k => if x = k then l else x :: remK l k
def distK (l : List Key) : Bool := decide l.Nodup
theorem kput_at : ∀ (l : List Key) (k : Key), kput l k = l.take ((l.findIdx? fun x => klt k x).getD l.length) ++ k :: l.drop ((l.findIdx? fun x => klt k x).getD l.length)
  | [], k => rfl
  | x :: l, k => by
    unfold kput
    by_cases h : klt k x = true
    · simp [List.findIdx?_cons, h]
    · simp only [Bool.not_eq_true] at h
      have ih := kput_at l k
      rw [if_neg (by simp [h]), List.findIdx?_cons]
      simp only [h, Bool.false_eq_true, if_false]
      rw [ih]
      cases l.findIdx? (fun x => klt k x) <;> simp
theorem hasK_idx {l : List Key} {k : Key} : (l.findIdx? fun x => decide (x = k)).isSome = hasK l k := by
  rw [List.findIdx?_isSome]; rfl
theorem placeI_new {l : List Key} {k : Key} (h : hasK l k = false) : placeI l k = (l.findIdx? fun x => klt k x).getD l.length := by
  rw [← hasK_idx] at h
  unfold placeI
  cases h' : l.findIdx? fun x => decide (x = k) with
  | none => rfl
  | some i => rw [h'] at h; cases h
theorem placeI_le (l : List Key) (k : Key) : placeI l k ≤ l.length := by
  unfold placeI
  cases h' : l.findIdx? fun x => decide (x = k) with
  | none =>
    cases h2 : l.findIdx? fun x => klt k x with
    | none => simp
    | some i => simp only [Option.getD_some]; rw [List.findIdx?_eq_some_iff_getElem] at h2; exact Nat.le_of_lt h2.1
  | some i => simp only; rw [List.findIdx?_eq_some_iff_getElem] at h'; exact Nat.le_of_lt h'.1
theorem placeI_lt {l : List Key} {k : Key} (h : hasK l k = true) : placeI l k < l.length := by
  rw [← hasK_idx] at h
  unfold placeI
  cases h' : l.findIdx? fun x => decide (x = k) with
  | none => rw [h'] at h; cases h
  | some i => simp only; rw [List.findIdx?_eq_some_iff_getElem] at h'; exact h'.1
theorem remK_at : ∀ (l : List Key) (k : Key), hasK l k = true → remK l k = l.take (placeI l k) ++ l.drop (placeI l k + 1)
  | [], k, h => by simp [hasK] at h
  | x :: l, k, h => by
    unfold remK placeI
    by_cases e : x = k
    · simp [List.findIdx?_cons, e]
    · have h2 : hasK l k = true := by simpa [hasK, e] using h
      have ih := remK_at l k h2
      rw [if_neg e, ih]
      have h3 := h2
      rw [← hasK_idx] at h3
      unfold placeI
      rw [List.findIdx?_cons]
      cases h' : l.findIdx? (fun x => decide (x = k)) with
      | none => rw [h'] at h3; cases h3
      | some i => simp [e]
theorem remK_not : ∀ (l : List Key) (k : Key), hasK l k = false → remK l k = l
  | [], k, h => rfl
  | x :: l, k, h => by
    have h' : ¬ x = k ∧ hasK l k = false := by simpa [hasK] using h
    unfold remK
    rw [if_neg h'.1, remK_not l k h'.2]
theorem lowI_spec {α : Type} [Inhabited α] (r : α → α → Int) (xs : List α) (t : α) : lowI r xs t ≤ xs.length ∧ (∀ k, k < lowI r xs t → r xs[k]! t < 0) ∧ (lowI r xs t < xs.length → ¬ r xs[lowI r xs t]! t < 0) := by
  unfold lowI
  induction xs with
  | nil => simp
  | cons x xs ih =>
    rw [List.takeWhile_cons]
    by_cases h : r x t < 0
    · simp only [h, decide_true, if_true, List.length_cons]
      refine ⟨by omega, fun k hk => ?_, fun hl => ?_⟩
      · cases k with
        | zero => simpa using h
        | succ k => have := ih.2.1 k (by omega); simpa using this
      · have := ih.2.2 (by omega); simpa using this
    · simp [h]
/-- where a key stands, or would stand, in a sorted list -/
theorem low_place {l : List Key} {k : Key} (h : Srt kcmp l) : lowI kcmp l k = placeI l k ∧ decide (lowI kcmp l k < l.length ∧ kcmp l[lowI kcmp l k]! k = 0) = hasK l k := by
  obtain ⟨h1, h2, h3⟩ := lowI_spec kcmp l k
  have hne : ∀ x ∈ l.take (lowI kcmp l k), decide (x = k) = false := by
    intro x hx
    rw [List.mem_take_iff_getElem] at hx
    obtain ⟨j, hj, rfl⟩ := hx
    have := h2 j (by omega)
    rw [getElem!_pos l j (by omega)] at this
    simp only [decide_eq_false_iff_not]
    rintro e
    rw [e, kcmp_self] at this; omega
  by_cases hf : lowI kcmp l k < l.length ∧ kcmp l[lowI kcmp l k]! k = 0
  · have hk := kcmp_zero hf.2
    have hi := findIdx_at (p := fun x => decide (x = k)) hf.1 hne (by simpa using hk)
    have hh : hasK l k = true := by rw [← hasK_idx, hi]; rfl
    refine ⟨by unfold placeI; rw [hi], by rw [hh]; simpa using hf⟩
  · have hgt : ∀ j, lowI kcmp l k ≤ j → j < l.length → klt k l[j]! = true := by
      intro j hij hj
      have h4 : ¬ kcmp l[lowI kcmp l k]! k < 0 := h3 (by omega)
      have h5 : ¬ kcmp l[lowI kcmp l k]! k = 0 := fun e => hf ⟨by omega, e⟩
      have h6 : ¬ kcmp l[j]! k < 0 := fun e => h4 (srt_mono h hij hj e)
      have h7 : ¬ kcmp l[j]! k = 0 := by
        intro e
        have e2 := kcmp_zero e
        rcases Nat.lt_or_ge (lowI kcmp l k) j with hlt | hge
        · have h8 : ¬ kcmp l[j]! l[lowI kcmp l k]! < 0 := by
            unfold Srt at h
            rw [List.pairwise_iff_getElem] at h
            have := h (lowI kcmp l k) j (by omega) hj hlt
            rwa [getElem!_pos l j hj, getElem!_pos l _ (show lowI kcmp l k < l.length by omega)]
          rw [e2] at h8
          rw [kcmp_swap] at h8; omega
        · have : lowI kcmp l k = j := by omega
          rw [this] at h5; exact h5 e
      simp only [klt, decide_eq_true_eq]
      rw [kcmp_swap]; omega
    have hh : hasK l k = false := by
      rw [Bool.eq_false_iff]
      intro hm
      rw [hasK_iff, List.mem_iff_getElem] at hm
      obtain ⟨j, hj, e⟩ := hm
      rcases Nat.lt_or_ge j (lowI kcmp l k) with hlt | hge
      · have := hne l[j] (by rw [List.mem_take_iff_getElem]; exact ⟨j, by omega, rfl⟩)
        simp [e] at this
      · have := hgt j hge hj
        rw [getElem!_pos l j hj, e, klt_irrefl] at this; cases this
    refine ⟨?_, by rw [hh]; simpa using hf⟩
    rw [placeI_new hh]
    by_cases hl : lowI kcmp l k < l.length
    · rw [findIdx_at hl (fun x hx => ?_) (hgt _ (Nat.le_refl _) hl)]
      · rfl
      · rw [List.mem_take_iff_getElem] at hx
        obtain ⟨j, hj, rfl⟩ := hx
        have := h2 j (by omega)
        rw [getElem!_pos l j (by omega)] at this
        simp only [klt, decide_eq_false_iff_not]
        rw [kcmp_swap]; omega
    · rw [findIdx_none (fun x hx => ?_)]
      · simp; omega
      · rw [List.mem_iff_getElem] at hx
        obtain ⟨j, hj, rfl⟩ := hx
        have := h2 j (by omega)
        rw [getElem!_pos l j hj] at this
        simp only [klt, decide_eq_false_iff_not]
        rw [kcmp_swap]; omega
theorem kput_snoc : ∀ (l : List Key) (x k : Key), kput (l ++ [x]) k = if l.any (fun y => klt k y) then kput l k ++ [x] else if klt k x then l ++ [k, x] else l ++ [x, k]
  | [], x, k => by
    simp only [List.nil_append, List.any_nil, Bool.false_eq_true, if_false]
    unfold kput
    split <;> simp [kput]
  | y :: l, x, k => by
    have ih := kput_snoc l x k
    rw [List.cons_append]
    unfold kput
    by_cases h : klt k y = true
    · simp [h]
    · simp only [Bool.not_eq_true] at h
      simp only [h, Bool.false_eq_true, if_false, ih, List.any_cons, Bool.false_or]
      split
      · simp
      · split <;> simp
theorem kput_none {l : List Key} {k : Key} (h : l.any (fun y => klt k y) = false) : kput l k = l ++ [k] := by
  rw [kput_at, findIdx_none (by simpa using h)]
  simp
theorem foldl_snoc {α β : Type} (f : β → α → β) (b : β) (l : List α) (x : α) : (l ++ [x]).foldl f b = f (l.foldl f b) x := by simp
theorem remK_snoc (l : List Key) (x k : Key) : remK (l ++ [x]) k = if hasK l k then remK l k ++ [x] else if x = k then l else l ++ [x] := by
  induction l with
  | nil => simp [remK, hasK]
  | cons y l ih =>
    simp only [List.cons_append, remK]
    by_cases e : y = k
    · simp [e, hasK]
    · have : hasK (y :: l) k = hasK l k := by simp [hasK, e]
      rw [if_neg e, ih, this, if_neg e]
      split
      · simp
      · split <;> simp
theorem distK_take {l : List Key} {i : Nat} (h : i < l.length) : distK (l.take (i + 1)) = (distK (l.take i) && !hasK (l.take i) l[i]!) := by
  unfold distK
  rw [take_snoc h, Bool.eq_iff_iff]
  simp only [decide_eq_true_eq, List.nodup_append, Bool.and_eq_true, Bool.not_eq_true', List.nodup_cons, List.not_mem_nil, not_false_eq_true, List.nodup_nil, and_self, true_and, List.mem_singleton, ne_eq]
  refine and_congr_right fun _ => ?_
  rw [Bool.eq_false_iff, ne_eq, hasK_iff]
  exact ⟨fun h hm => h _ hm _ rfl rfl, fun h a ha b hb e => h (by rw [← hb, ← e]; exact ha)⟩
/-- distinct, told by neighbours once sorted -/
theorem dist_sorted {l : List Key} (h : ∀ i, 0 < i → i < (ksort l).length → ¬ (ksort l)[i]! = (ksort l)[i - 1]!) : distK l = true := by
  unfold distK
  rw [decide_eq_true_eq, ← (ksort_perm l).nodup_iff]
  have hs := ksort_srt l
  generalize ksort l = s at h hs
  unfold List.Nodup
  rw [List.pairwise_iff_getElem]
  intro i j hi hj hij e
  have h1 := h (i + 1) (by omega) (by omega)
  apply h1
  rw [Nat.add_sub_cancel]
  have h2 : ¬ kcmp s[i + 1]! s[i]! < 0 := by
    have := srt_adj' hs (show 0 < i + 1 by omega) (by omega)
    simpa using this
  have h3 : ¬ kcmp s[i]! s[i + 1]! < 0 := by
    rw [getElem!_pos s i hi, e, ← getElem!_pos s j hj]
    intro h4
    have := srt_mono hs (show i + 1 ≤ j by omega) hj (t := s[i + 1]!) h4
    rw [kcmp_self] at this; omega
  have := kcmp_swap s[i + 1]! s[i]!
  exact kcmp_zero (by omega)
theorem not_dist_sorted {l : List Key} {i : Nat} (h0 : 0 < i) (h1 : i < (ksort l).length) (e : (ksort l)[i]! = (ksort l)[i - 1]!) : distK l = false := by
  unfold distK
  rw [decide_eq_false_iff_not, ← (ksort_perm l).nodup_iff]
  intro h
  unfold List.Nodup at h
  rw [List.pairwise_iff_getElem] at h
  have := h (i - 1) i (by omega) h1 (by omega)
  rw [getElem!_pos _ i h1, getElem!_pos _ (i - 1) (by omega)] at e
  exact this e.symm
end Go.Proofs.Ythdhnkgnbdociaa
