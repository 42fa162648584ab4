/- The plain sorted list of keys. No condition. -/
import Derived.Test.YthdhnkgnbdociaaSp
import Derived.Test.YthdhnkgnbdociaaVal
namespace Go.Proofs.Ythdhnkgnbdociaa
set_option linter.all false
open Go
/-- put a key ahead of the first one that it is below -/
def kput : List Key → Key → List Key
  | [], k => [k]
  | x :: l, k => if klt k x then k :: x :: l else x :: kput l k
def ksort (l : List Key) : List Key := l.foldl kput []
instance weak_keys : Weak kcmp := ⟨fun x => by rw [kcmp_self]; omega, fun x y h => by rw [kcmp_swap]; omega, fun x y z h1 h2 h3 => by
  rw [kcmp_swap x y] at h1
  rw [kcmp_swap y z] at h2
  rw [kcmp_swap x z] at h3
  by_cases e1 : kcmp x y = 0
  · rw [kcmp_zero e1] at h3; omega
  · by_cases e2 : kcmp y z = 0
    · rw [kcmp_zero e2] at e1 h1; omega
    · have : kcmp x z < 0 := lexc_trans (show lexc x.toList y.toList < 0 from by have := h1; unfold kcmp at *; omega) (show lexc y.toList z.toList < 0 from by have := h2; unfold kcmp at *; omega)
      omega⟩
theorem kput_perm : ∀ (l : List Key) (k : Key), (kput l k).Perm (k :: l)
  | [], k => List.Perm.refl _
  | x :: l, k => by
    unfold kput
    split
    · exact List.Perm.refl _
    · exact ((kput_perm l k).cons x).trans (List.Perm.swap k x l)
theorem kput_mem {l : List Key} {k y : Key} (h : y ∈ kput l k) : y = k ∨ y ∈ l := by
  have := (kput_perm l k).mem_iff.1 h
  simpa using this
theorem kput_srt : ∀ {l : List Key} {k : Key}, Srt kcmp l → Srt kcmp (kput l k)
  | [], k, _ => List.pairwise_singleton _ _
  | x :: l, k, h => by
    unfold Srt at h
    rw [List.pairwise_cons] at h
    unfold kput
    split
    · rename_i hlt
      have hkx : kcmp k x < 0 := by simpa [klt] using hlt
      refine List.pairwise_cons.2 ⟨fun y hy => ?_, List.pairwise_cons.2 h⟩
      rcases List.mem_cons.1 hy with rfl | hy
      · exact weak_keys.asym _ _ hkx
      · exact weak_keys.tr k x y (weak_keys.asym _ _ hkx) (h.1 y hy)
    · rename_i hlt
      have hkx : ¬ kcmp k x < 0 := by simpa [klt] using hlt
      refine List.pairwise_cons.2 ⟨fun y hy => ?_, kput_srt h.2⟩
      rcases kput_mem hy with rfl | hy
      · exact hkx
      · exact h.1 y hy
theorem foldl_kput : ∀ (l acc : List Key), Srt kcmp acc → Srt kcmp (l.foldl kput acc) ∧ (l.foldl kput acc).Perm (l ++ acc)
  | [], acc, h => ⟨h, List.Perm.refl _⟩
  | x :: l, acc, h => by
    obtain ⟨h1, h2⟩ := foldl_kput l (kput acc x) (kput_srt h)
    refine ⟨h1, h2.trans ?_⟩
    have : (l ++ kput acc x).Perm (l ++ x :: acc) := (kput_perm acc x).append_left l
    exact this.trans List.perm_middle
theorem ksort_srt (l : List Key) : Srt kcmp (ksort l) := (foldl_kput l [] List.Pairwise.nil).1
theorem ksort_perm (l : List Key) : (ksort l).Perm l := by
  have h := (foldl_kput l [] List.Pairwise.nil).2
  rw [List.append_nil] at h
  exact h
theorem srt_unique {s u : List Key} (h : Srt kcmp s) (g : Srt kcmp u) (p : s.Perm u) : s = u :=
  List.Perm.eq_of_pairwise (le := fun x y => ¬ kcmp y x < 0) (fun a b _ _ h1 h2 => by
    have := kcmp_swap a b
    exact kcmp_zero (by omega)) h g p
theorem ksort_of {l s : List Key} (h : Srt kcmp s) (p : s.Perm l) : s = ksort l := srt_unique h (ksort_srt l) (p.trans (ksort_perm l).symm)
theorem ksort_length (l : List Key) : (ksort l).length = l.length := (ksort_perm l).length_eq
theorem ksort_congr {l m : List Key} (p : l.Perm m) : ksort l = ksort m := ksort_of (ksort_srt l) ((ksort_perm l).trans p)
theorem ksort_ksort (l : List Key) : ksort (ksort l) = ksort l := ksort_congr (ksort_perm l)
theorem ksort_mem {l : List Key} {k : Key} : k ∈ ksort l ↔ k ∈ l := (ksort_perm l).mem_iff
/-- a sort of all places -/
theorem SortedSeg.all {xs ys : List Key} (h : SortedSeg kcmp xs 0 xs.length ys) : ys = ksort xs := by
  obtain ⟨s, rfl, hp, hs⟩ := h
  have : xs.drop xs.length = [] := by simp
  simp only [List.take_zero, List.nil_append, this, List.append_nil]
  exact ksort_of hs (hp.trans (by simp [seg]))
end Go.Proofs.Ythdhnkgnbdociaa
