/- Plain facts on sorting: swaps, insertion, rotation, merging. No condition. -/
namespace Go.Proofs.Ythdhnkgnbdociaa
set_option linter.all false
section
variable {α : Type} [Inhabited α]
def swp (xs : List α) (i j : Nat) : List α := (xs.set i xs[j]!).set j xs[i]!
theorem swp_length (xs : List α) (i j : Nat) : (swp xs i j).length = xs.length := by simp [swp]
theorem set_mid {p q : List α} {x y : α} {j : Nat} (hj : j = p.length) : (p ++ x :: q).set j y = p ++ y :: q := by subst hj; simp
theorem get_mid {p q : List α} {x : α} {j : Nat} (hj : j = p.length) : (p ++ x :: q)[j]! = x := by
  subst hj
  rw [getElem!_pos _ _ (by simp)]
  simp

/-- sorted, by a comparison -/
def Srt (r : α → α → Int) (s : List α) : Prop := s.Pairwise fun x y => ¬ r y x < 0
class Weak (r : α → α → Int) : Prop where
  irr : ∀ x, ¬ r x x < 0
  asym : ∀ x y, r x y < 0 → ¬ r y x < 0
  tr : ∀ x y z, ¬ r y x < 0 → ¬ r z y < 0 → ¬ r z x < 0     -- x ≤ y ≤ z → x ≤ z

/-- two places change what they hold -/
theorem swp_mid (p u q : List α) (x y : α) {i j : Nat} (hi : i = p.length) (hj : j = p.length + u.length + 1) : swp (p ++ x :: (u ++ y :: q)) i j = p ++ y :: (u ++ x :: q) := by
  have h1 : (p ++ x :: (u ++ y :: q))[i]! = x := get_mid hi
  have e : p ++ x :: (u ++ y :: q) = (p ++ x :: u) ++ y :: q := by simp
  have h2 : (p ++ x :: (u ++ y :: q))[j]! = y := by rw [e]; exact get_mid (by simp; omega)
  unfold swp
  rw [h1, h2, set_mid hi]
  have e2 : p ++ y :: (u ++ y :: q) = (p ++ y :: u) ++ y :: q := by simp
  rw [e2, set_mid (by simp; omega)]
  simp
theorem swp_comm (xs : List α) (i j : Nat) (h : i ≠ j) : swp xs i j = swp xs j i := by
  unfold swp
  rw [List.set_comm _ _ h]
theorem srt_insert {r : α → α → Int} (w : Weak r) {u v : List α} {x : α} (h : Srt r (u ++ v)) (hv : ∀ y ∈ v, r x y < 0) (hu : u = [] ∨ ∃ u' y, u = u' ++ [y] ∧ ¬ r x y < 0) : Srt r (u ++ x :: v) := by
  unfold Srt at *
  rw [List.pairwise_append] at h ⊢
  obtain ⟨h1, h2, h3⟩ := h
  refine ⟨h1, List.pairwise_cons.2 ⟨fun y hy => w.asym _ _ (hv y hy), h2⟩, fun a ha b hb => ?_⟩
  rcases List.mem_cons.1 hb with rfl | hb
  · rcases hu with rfl | ⟨u', y, rfl, hy⟩
    · cases ha
    · rcases List.mem_append.1 ha with ha | ha
      · rw [List.pairwise_append] at h1
        exact w.tr a y b (h1.2.2 a ha y (by simp)) hy
      · simp at ha; subst ha; exact hy
  · exact h3 a ha b hb
/-- what an insertion has come to: x, which stood behind a sorted part, has come down to place j -/
def InsAt (r : α → α → Int) (p s : List α) (x : α) (q : List α) (j : Nat) (ys : List α) : Prop :=
  ∃ u v, s = u ++ v ∧ ys = p ++ (u ++ x :: (v ++ q)) ∧ j = p.length + u.length ∧ ∀ y ∈ v, r x y < 0
theorem InsAt.start {r : α → α → Int} {p s q : List α} {x : α} : InsAt r p s x q (p.length + s.length) (p ++ (s ++ x :: q)) := ⟨s, [], by simp, by simp, rfl, by simp⟩
theorem InsAt.len {r : α → α → Int} {p s q : List α} {x : α} {j : Nat} {ys : List α} (h : InsAt r p s x q j ys) : ys.length = p.length + s.length + 1 + q.length := by
  obtain ⟨u, v, rfl, rfl, _, _⟩ := h; simp; omega
theorem InsAt.step {r : α → α → Int} {p s q : List α} {x : α} {j : Nat} {ys : List α} (h : InsAt r p s x q j ys) (hj : p.length < j) (hc : r ys[j]! ys[j - 1]! < 0) : InsAt r p s x q (j - 1) (swp ys j (j - 1)) := by
  obtain ⟨u, v, rfl, rfl, rfl, hv⟩ := h
  rcases List.eq_nil_or_concat u with rfl | ⟨u', y, rfl⟩
  · simp at hj
  · simp only [List.concat_eq_append] at hj hc ⊢
    have e : p ++ ((u' ++ [y]) ++ x :: (v ++ q)) = (p ++ u') ++ y :: ([] ++ x :: (v ++ q)) := by simp
    have g1 : (p ++ ((u' ++ [y]) ++ x :: (v ++ q)))[p.length + (u' ++ [y]).length]! = x := by
      have e' : p ++ ((u' ++ [y]) ++ x :: (v ++ q)) = (p ++ (u' ++ [y])) ++ x :: (v ++ q) := by simp
      rw [e']; exact get_mid (by simp)
    have g2 : (p ++ ((u' ++ [y]) ++ x :: (v ++ q)))[p.length + (u' ++ [y]).length - 1]! = y := by rw [e]; exact get_mid (by simp)
    rw [g1, g2] at hc
    refine ⟨u', y :: v, by simp, ?_, by simp, fun z hz => ?_⟩
    · rw [swp_comm _ _ _ (by simp), e, swp_mid (p ++ u') [] (v ++ q) y x (by simp) (by simp; omega)]
      simp
    · rcases List.mem_cons.1 hz with rfl | hz
      · exact hc
      · exact hv z hz
theorem InsAt.done {r : α → α → Int} (w : Weak r) {p s q : List α} {x : α} {j : Nat} {ys : List α} (h : InsAt r p s x q j ys) (hs : Srt r s) (hj : j = p.length ∨ (p.length < j ∧ ¬ r ys[j]! ys[j - 1]! < 0)) :
    ∃ s', ys = p ++ (s' ++ q) ∧ s'.Perm (s ++ [x]) ∧ Srt r s' := by
  obtain ⟨u, v, rfl, rfl, rfl, hv⟩ := h
  refine ⟨u ++ x :: v, by simp, ?_, srt_insert w hs hv ?_⟩
  · have : (u ++ x :: v).Perm (x :: (u ++ v)) := List.perm_middle
    exact this.trans (List.perm_append_singleton x (u ++ v)).symm
  · rcases hj with hj | ⟨hj, hc⟩
    · exact .inl (List.eq_nil_of_length_eq_zero (by omega))
    · rcases List.eq_nil_or_concat u with rfl | ⟨u', y, rfl⟩
      · simp at hj
      · simp only [List.concat_eq_append] at hj hc ⊢
        refine .inr ⟨u', y, by simp, ?_⟩
        have g1 : (p ++ ((u' ++ [y]) ++ x :: (v ++ q)))[p.length + ((u' ++ [y])).length]! = x := by
          have e' : p ++ ((u' ++ [y]) ++ x :: (v ++ q)) = (p ++ (u' ++ [y])) ++ x :: (v ++ q) := by simp
          rw [e']; exact get_mid (by simp)
        have g2 : (p ++ ((u' ++ [y]) ++ x :: (v ++ q)))[p.length + ((u' ++ [y])).length - 1]! = y := by
          have e' : p ++ ((u' ++ [y]) ++ x :: (v ++ q)) = (p ++ u') ++ y :: x :: (v ++ q) := by simp
          rw [e']; exact get_mid (by simp)
        rwa [g1, g2] at hc

theorem InsAt.le {r : α → α → Int} {p s q : List α} {x : α} {j : Nat} {ys : List α} (h : InsAt r p s x q j ys) : p.length ≤ j ∧ j ≤ p.length + s.length := by
  obtain ⟨u, v, rfl, rfl, rfl, _⟩ := h; simp
/-- a part of a list: places a to b (b left out) -/
def seg (xs : List α) (a b : Nat) : List α := (xs.drop a).take (b - a)
theorem seg_split (xs : List α) {a b : Nat} (h : a ≤ b) (hb : b ≤ xs.length) : xs = xs.take a ++ (seg xs a b ++ xs.drop b) := by
  unfold seg
  have : xs.drop b = (xs.drop a).drop (b - a) := by rw [List.drop_drop]; congr 1; omega
  rw [this, List.take_append_drop, List.take_append_drop]
theorem seg_length (xs : List α) {a b : Nat} (h : a ≤ b) (hb : b ≤ xs.length) : (seg xs a b).length = b - a := by simp [seg]; omega
theorem seg_succ (xs : List α) {a b : Nat} (h : a ≤ b) (hb : b < xs.length) : seg xs a (b + 1) = seg xs a b ++ [xs[b]!] := by
  unfold seg
  rw [show b + 1 - a = (b - a) + 1 by omega, List.take_succ_eq_append_getElem (by simp; omega)]
  congr 1
  rw [getElem!_pos xs b hb, List.getElem_drop]
  congr 1
  congr 1
  omega
/-- the round of the outer loop of an insertion sort: places a to i are sorted, the rest is as it was -/
def InsTo (r : α → α → Int) (xs : List α) (a i : Nat) (ys : List α) : Prop := ∃ s, ys = xs.take a ++ (s ++ xs.drop i) ∧ s.Perm (seg xs a i) ∧ Srt r s
theorem InsTo.start {r : α → α → Int} {xs : List α} {a : Nat} (h : a < xs.length) : InsTo r xs a (a + 1) xs := by
  refine ⟨seg xs a (a + 1), seg_split xs (by omega) (by omega), List.Perm.refl _, ?_⟩
  have : (seg xs a (a + 1)).length = 1 := by rw [seg_length xs (by omega) (by omega)]; omega
  match h' : seg xs a (a + 1), this with
  | [x], _ => exact List.pairwise_singleton _ _
theorem InsTo.enter {r : α → α → Int} {xs ys : List α} {a i : Nat} (h : InsTo r xs a i ys) (hai : a ≤ i) (hi : i < xs.length) : ∃ s, s.Perm (seg xs a i) ∧ Srt r s ∧ (xs.take a).length = a ∧ s.length = i - a ∧ InsAt r (xs.take a) s xs[i]! (xs.drop (i + 1)) i ys := by
  obtain ⟨s, rfl, hp, hs⟩ := h
  have h1 : (xs.take a).length = a := by simp; omega
  have h2 : s.length = i - a := by rw [hp.length_eq, seg_length xs hai (by omega)]
  refine ⟨s, hp, hs, h1, h2, ?_⟩
  have e : xs.drop i = xs[i]! :: xs.drop (i + 1) := by rw [List.drop_eq_getElem_cons hi, getElem!_pos xs i hi]
  have := InsAt.start (r := r) (p := xs.take a) (s := s) (q := xs.drop (i + 1)) (x := xs[i]!)
  rw [h1, h2, ← e] at this
  rwa [show a + (i - a) = i by omega] at this
theorem InsTo.leave {r : α → α → Int} (w : Weak r) {xs zs s : List α} {a i j : Nat} (hp : s.Perm (seg xs a i)) (hs : Srt r s) (h1 : (xs.take a).length = a) (hai : a ≤ i) (hi : i < xs.length) (h : InsAt r (xs.take a) s xs[i]! (xs.drop (i + 1)) j zs)
    (hj : j = a ∨ (a < j ∧ ¬ r zs[j]! zs[j - 1]! < 0)) : InsTo r xs a (i + 1) zs := by
  obtain ⟨s', e, hp', hs'⟩ := h.done w hs (by rw [h1]; exact hj)
  refine ⟨s', e, ?_, hs'⟩
  rw [seg_succ xs hai hi]
  exact hp'.trans (hp.append_right _)
/-- what a sort of places a to b came to -/
abbrev SortedSeg (r : α → α → Int) (xs : List α) (a b : Nat) (ys : List α) : Prop := InsTo r xs a b ys
theorem SortedSeg.none_ {r : α → α → Int} {xs : List α} {a : Nat} : SortedSeg r xs a a xs := ⟨[], by simp, by simp [seg], List.Pairwise.nil⟩
theorem swp_eq (xs : List α) (i j : Nat) : (xs.set i xs[j]!).set j xs[i]! = swp xs i j := rfl
end
end Go.Proofs.Ythdhnkgnbdociaa
