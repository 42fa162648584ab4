/- Plain facts on a stable sort by merging in place, the second part: what a merge and its halves come to; blocks. No condition. -/
import Derived.Test.YthdhnkgnbdociaaSq
namespace Go.Proofs.Ythdhnkgnbdociaa
set_option linter.all false
set_option maxHeartbeats 40000000
set_option synthInstance.maxHeartbeats 2000000
set_option synthInstance.maxSize 100000
section
variable {α : Type} [Inhabited α] {r : α → α → Int}
theorem seg_parts {p u q : List α} {a b : Nat} (ha : a = p.length) (hb : b = p.length + u.length) : seg (p ++ (u ++ q)) a b = u := by
  subst ha; subst hb
  simp [seg]
theorem seg_len (xs : List α) {a b : Nat} (h : a ≤ b) (hb : b ≤ xs.length) : (seg xs a b).length = b - a := seg_length xs h hb
theorem seg_app (xs : List α) {a m b : Nat} (h1 : a ≤ m) (h2 : m ≤ b) (h3 : b ≤ xs.length) : seg xs a b = seg xs a m ++ seg xs m b := by
  unfold seg
  have e : (xs.drop m) = (xs.drop a).drop (m - a) := by rw [List.drop_drop]; congr 1; omega
  rw [e, ← List.take_add]
  congr 1; omega
theorem parts3 (xs : List α) {a b : Nat} (h : a ≤ b) (hb : b ≤ xs.length) : ∃ p u q, xs = p ++ (u ++ q) ∧ p.length = a ∧ u.length = b - a ∧ u = seg xs a b ∧ p = xs.take a ∧ q = xs.drop b :=
  ⟨xs.take a, seg xs a b, xs.drop b, seg_split xs h hb, by simp; omega, seg_length xs h hb, rfl, rfl, rfl⟩
theorem seg_trunc (xs : List α) {a b : Nat} (h : xs.length ≤ b) : seg xs a b = seg xs a xs.length := by
  unfold seg
  rw [List.take_of_length_le (by simp; omega), List.take_of_length_le (by simp)]
/-- the rotation of places a to b round m -/
def rotd (xs : List α) (a m b : Nat) : List α := xs.take a ++ (seg xs m b ++ (seg xs a m ++ xs.drop b))
theorem rotd_length (xs : List α) {a m b : Nat} (h1 : a ≤ m) (h2 : m ≤ b) (h3 : b ≤ xs.length) : (rotd xs a m b).length = xs.length := by
  simp [rotd, seg_length xs h1 (by omega), seg_length xs h2 h3]; omega
theorem RotAt.start (xs : List α) {a m b : Nat} (h1 : a ≤ m) (h2 : m ≤ b) (h3 : b ≤ xs.length) : RotAt m (m - a) (b - m) xs (rotd xs a m b) := by
  refine ⟨xs.take a, seg xs a m, seg xs m b, xs.drop b, ?_, rfl, seg_length xs h1 (by omega), seg_length xs h2 h3, by simp; omega⟩
  rw [← List.append_assoc (seg xs a m), ← seg_app xs h1 h2 h3]
  exact seg_split xs (by omega) h3
theorem rotd_id {xs : List α} {a m b : Nat} (h1 : a ≤ m) (h2 : m ≤ b) (h3 : b ≤ xs.length) (h : a = m ∨ m = b) : rotd xs a m b = xs := by
  unfold rotd
  rcases h with rfl | rfl
  · have : seg xs a a = [] := by simp [seg]
    rw [this]; exact (seg_split xs h2 h3).symm
  · have : seg xs m m = [] := by simp [seg]
    rw [this]; exact (seg_split xs h1 h3).symm

theorem InsTo.id_ {xs : List α} {a b : Nat} (h : a ≤ b) (hb : b ≤ xs.length) (hs : Srt r (seg xs a b)) : InsTo r xs a b xs := ⟨seg xs a b, seg_split xs h hb, List.Perm.refl _, hs⟩
theorem InsTo.parts {p u q ys : List α} {a b : Nat} (ha : a = p.length) (hb : b = p.length + u.length) : InsTo r (p ++ (u ++ q)) a b ys ↔ ∃ s, ys = p ++ (s ++ q) ∧ s.Perm u ∧ Srt r s := by
  subst ha; subst hb
  unfold InsTo
  rw [seg_parts rfl rfl]
  have e1 : (p ++ (u ++ q)).take p.length = p := by simp
  have e2 : (p ++ (u ++ q)).drop (p.length + u.length) = q := by rw [← List.append_assoc, ← List.length_append, List.drop_left]
  rw [e1, e2]
theorem InsTo.perm {xs ys : List α} {a b : Nat} (h1 : a ≤ b) (h2 : b ≤ xs.length) (h : InsTo r xs a b ys) : ys.Perm xs := by
  obtain ⟨p, u, q, e, hp, hu, _⟩ := parts3 xs h1 h2
  rw [e, InsTo.parts hp.symm (by omega)] at h
  obtain ⟨s, rfl, hs, _⟩ := h
  rw [e]
  exact (hs.append_right q).append_left p
theorem InsTo.length {xs ys : List α} {a b : Nat} (h1 : a ≤ b) (h2 : b ≤ xs.length) (h : InsTo r xs a b ys) : ys.length = xs.length := (h.perm h1 h2).length_eq
theorem InsTo.left {xs ys : List α} {a b c d : Nat} (h1 : a ≤ b) (h2 : b ≤ xs.length) (h : InsTo r xs a b ys) (hd : d ≤ a) : seg ys c d = seg xs c d := by
  obtain ⟨s, rfl, _, _⟩ := h
  have : ∀ l : List α, seg l c d = (l.take d).drop c := fun l => by rw [seg, List.drop_take]
  rw [this, this]
  congr 1
  rw [List.take_append_of_le_length (by simp; omega), List.take_take, Nat.min_eq_left hd]
theorem InsTo.right {xs ys : List α} {a b c d : Nat} (h1 : a ≤ b) (h2 : b ≤ xs.length) (h : InsTo r xs a b ys) (hc : b ≤ c) : seg ys c d = seg xs c d := by
  obtain ⟨s, rfl, hp, _⟩ := h
  have hl := hp.length_eq
  rw [seg_length xs h1 h2] at hl
  unfold seg
  congr 1
  rw [← List.append_assoc, List.drop_append, List.drop_eq_nil_of_le (by simp; omega), List.nil_append, List.drop_drop]
  congr 1
  simp; omega
theorem InsTo.mid {xs ys : List α} {a b : Nat} (h1 : a ≤ b) (h2 : b ≤ xs.length) (h : InsTo r xs a b ys) : Srt r (seg ys a b) := by
  obtain ⟨s, rfl, hp, hs⟩ := h
  have hl := hp.length_eq
  rw [seg_length xs h1 h2] at hl
  rw [seg_parts (by simp; omega) (by simp; omega)]
  exact hs

/-- what a merge in place does: a rotation, then each half -/
theorem sym_law (w : Weak r) {xs : List α} {a q m e b mid : Nat} (h1 : a ≤ q) (h2 : q ≤ m) (h3 : m ≤ e) (h4 : e ≤ b) (h5 : b ≤ xs.length) (h6 : mid + m = q + e) (hU : Srt r (seg xs a m)) (hV : Srt r (seg xs m b))
    (c1 : q = a ∨ e = b ∨ ¬ r xs[e]! xs[q - 1]! < 0) (c2 : q = m ∨ e = m ∨ r xs[e - 1]! xs[q]! < 0) :
    Srt r (seg (rotd xs q m e) a q) ∧ Srt r (seg (rotd xs q m e) q mid) ∧ (q = a ∨ q = mid → InsTo r (rotd xs q m e) a mid (rotd xs q m e)) ∧
    ∀ ys1, InsTo r (rotd xs q m e) a mid ys1 → Srt r (seg ys1 mid e) ∧ Srt r (seg ys1 e b) ∧ (mid = e ∨ e = b → InsTo r ys1 mid b ys1) ∧ ∀ ys2, InsTo r ys1 mid b ys2 → InsTo r xs a b ys2 := by
  obtain ⟨p, U1, q1, e1, lp, lu1, _⟩ := parts3 xs h1 (by omega : q ≤ xs.length)
  have lq1 : q1.length = xs.length - q := by have := congrArg List.length e1; simp at this; omega
  obtain ⟨U2, q2, e2, lu2, lq2⟩ : ∃ U2 q2, q1 = U2 ++ q2 ∧ U2.length = m - q ∧ q2.length = xs.length - m := ⟨q1.take (m - q), q1.drop (m - q), (List.take_append_drop _ _).symm, by simp; omega, by simp; omega⟩
  obtain ⟨V1, q3, e3, lv1, lq3⟩ : ∃ V1 q3, q2 = V1 ++ q3 ∧ V1.length = e - m ∧ q3.length = xs.length - e := ⟨q2.take (e - m), q2.drop (e - m), (List.take_append_drop _ _).symm, by simp; omega, by simp; omega⟩
  obtain ⟨V2, S, e4, lv2⟩ : ∃ V2 S, q3 = V2 ++ S ∧ V2.length = b - e := ⟨q3.take (b - e), q3.drop (b - e), (List.take_append_drop _ _).symm, by simp; omega⟩
  subst e4; subst e3; subst e2
  clear lq1 lq2 lq3
  subst e1
  have g1 : seg (p ++ (U1 ++ (U2 ++ (V1 ++ (V2 ++ S))))) a m = U1 ++ U2 := by
    have : p ++ (U1 ++ (U2 ++ (V1 ++ (V2 ++ S)))) = p ++ ((U1 ++ U2) ++ (V1 ++ (V2 ++ S))) := by simp
    rw [this]; exact seg_parts (by omega) (by simp; omega)
  have g2 : seg (p ++ (U1 ++ (U2 ++ (V1 ++ (V2 ++ S))))) m b = V1 ++ V2 := by
    have : p ++ (U1 ++ (U2 ++ (V1 ++ (V2 ++ S)))) = (p ++ (U1 ++ U2)) ++ ((V1 ++ V2) ++ S) := by simp
    rw [this]; exact seg_parts (by simp; omega) (by simp; omega)
  rw [g1] at hU
  rw [g2] at hV
  have hrot : rotd (p ++ (U1 ++ (U2 ++ (V1 ++ (V2 ++ S))))) q m e = p ++ (U1 ++ (V1 ++ (U2 ++ (V2 ++ S)))) := by
    unfold rotd
    have r1 : (p ++ (U1 ++ (U2 ++ (V1 ++ (V2 ++ S))))).take q = p ++ U1 := by
      rw [← List.append_assoc]; rw [List.take_append_of_le_length (by simp; omega), List.take_of_length_le (by simp; omega)]
    have r2 : seg (p ++ (U1 ++ (U2 ++ (V1 ++ (V2 ++ S))))) m e = V1 := by
      have : p ++ (U1 ++ (U2 ++ (V1 ++ (V2 ++ S)))) = (p ++ (U1 ++ U2)) ++ (V1 ++ (V2 ++ S)) := by simp
      rw [this]; exact seg_parts (by simp; omega) (by simp; omega)
    have r3 : seg (p ++ (U1 ++ (U2 ++ (V1 ++ (V2 ++ S))))) q m = U2 := by
      have : p ++ (U1 ++ (U2 ++ (V1 ++ (V2 ++ S)))) = (p ++ U1) ++ (U2 ++ (V1 ++ (V2 ++ S))) := by simp
      rw [this]; exact seg_parts (by simp; omega) (by simp; omega)
    have r4 : (p ++ (U1 ++ (U2 ++ (V1 ++ (V2 ++ S))))).drop e = V2 ++ S := by
      have : p ++ (U1 ++ (U2 ++ (V1 ++ (V2 ++ S)))) = (p ++ (U1 ++ (U2 ++ V1))) ++ (V2 ++ S) := by simp
      rw [this, List.drop_append, List.drop_eq_nil_of_le (by simp; omega), List.nil_append]
      rw [show e - (p ++ (U1 ++ (U2 ++ V1))).length = 0 by simp; omega]; rfl
    rw [r1, r2, r3, r4]; simp
  rw [hrot]
  obtain ⟨sU1, sU2, xU⟩ := Srt.app.1 hU
  obtain ⟨sV1, sV2, xV⟩ := Srt.app.1 hV
  have cA : ∀ x ∈ U1, ∀ y ∈ V2, ¬ r y x < 0 := by
    refine srt_cross w sU1 sV2 (fun x y hx hy => ?_)
    have nx : U1 ≠ [] := by rintro rfl; cases hx
    have ny : V2 ≠ [] := by rintro rfl; cases hy
    have : 0 < U1.length := List.length_pos_iff.2 nx
    have : 0 < V2.length := List.length_pos_iff.2 ny
    have k1 : (p ++ (U1 ++ (U2 ++ (V1 ++ (V2 ++ S)))))[q - 1]! = x := get_last hx (by omega)
    have k2 : (p ++ (U1 ++ (U2 ++ (V1 ++ (V2 ++ S)))))[e]! = y := by
      have e5 : p ++ (U1 ++ (U2 ++ (V1 ++ (V2 ++ S)))) = (p ++ (U1 ++ (U2 ++ V1))) ++ (V2 ++ S) := by simp
      rw [e5]; exact get_head hy (by simp; omega)
    rw [k1, k2] at c1
    rcases c1 with c | c | c
    · omega
    · omega
    · exact c
  have cB : ∀ x ∈ V1, ∀ y ∈ U2, ¬ r y x < 0 := by
    refine srt_cross w sV1 sU2 (fun x y hx hy => ?_)
    have nx : V1 ≠ [] := by rintro rfl; cases hx
    have ny : U2 ≠ [] := by rintro rfl; cases hy
    have : 0 < V1.length := List.length_pos_iff.2 nx
    have : 0 < U2.length := List.length_pos_iff.2 ny
    have k1 : (p ++ (U1 ++ (U2 ++ (V1 ++ (V2 ++ S)))))[q]! = y := by
      have e5 : p ++ (U1 ++ (U2 ++ (V1 ++ (V2 ++ S)))) = (p ++ U1) ++ (U2 ++ (V1 ++ (V2 ++ S))) := by simp
      rw [e5]; exact get_head hy (by simp; omega)
    have k2 : (p ++ (U1 ++ (U2 ++ (V1 ++ (V2 ++ S)))))[e - 1]! = x := by
      have e5 : p ++ (U1 ++ (U2 ++ (V1 ++ (V2 ++ S)))) = (p ++ (U1 ++ U2)) ++ (V1 ++ (V2 ++ S)) := by simp
      rw [e5]; exact get_last hx (by simp; omega)
    rw [k1, k2] at c2
    rcases c2 with c | c | c
    · omega
    · omega
    · exact w.asym _ _ c
  have f1 : p ++ (U1 ++ (V1 ++ (U2 ++ (V2 ++ S)))) = p ++ ((U1 ++ V1) ++ (U2 ++ (V2 ++ S))) := by simp
  have f2 : p ++ (U1 ++ (V1 ++ (U2 ++ (V2 ++ S)))) = (p ++ U1) ++ (V1 ++ (U2 ++ (V2 ++ S))) := by simp
  refine ⟨by rw [seg_parts (by omega) (by omega)]; exact sU1, by rw [f2, seg_parts (by simp; omega) (by simp; omega)]; exact sV1, fun hq => ?_, fun ys1 hy1 => ?_⟩
  · rw [f1]
    refine (InsTo.parts (by omega) (by simp; omega)).2 ⟨U1 ++ V1, rfl, List.Perm.refl _, ?_⟩
    rcases hq with hq | hq
    · have : U1 = [] := List.eq_nil_of_length_eq_zero (by omega)
      subst this; exact sV1
    · have : V1 = [] := List.eq_nil_of_length_eq_zero (by omega)
      subst this; rw [List.append_nil]; exact sU1
  · rw [f1, InsTo.parts (by omega) (by simp; omega)] at hy1
    obtain ⟨L, rfl, pL, sL⟩ := hy1
    have lL : L.length = U1.length + V1.length := by rw [pL.length_eq]; simp
    have f3 : p ++ (L ++ (U2 ++ (V2 ++ S))) = (p ++ L) ++ (U2 ++ (V2 ++ S)) := by simp
    have f4 : p ++ (L ++ (U2 ++ (V2 ++ S))) = (p ++ (L ++ U2)) ++ (V2 ++ S) := by simp
    have f5 : p ++ (L ++ (U2 ++ (V2 ++ S))) = (p ++ L) ++ ((U2 ++ V2) ++ S) := by simp
    refine ⟨by rw [f3, seg_parts (by simp; omega) (by simp; omega)]; exact sU2, by rw [f4, seg_parts (by simp; omega) (by simp; omega)]; exact sV2, fun hq => ?_, fun ys2 hy2 => ?_⟩
    · rw [f5]
      refine (InsTo.parts (by simp; omega) (by simp; omega)).2 ⟨U2 ++ V2, rfl, List.Perm.refl _, ?_⟩
      rcases hq with hq | hq
      · have : U2 = [] := List.eq_nil_of_length_eq_zero (by omega)
        subst this; exact sV2
      · have : V2 = [] := List.eq_nil_of_length_eq_zero (by omega)
        subst this; rw [List.append_nil]; exact sU2
    · rw [f5, InsTo.parts (by simp; omega) (by simp; omega)] at hy2
      obtain ⟨R, rfl, pR, sR⟩ := hy2
      have f6 : p ++ (U1 ++ (U2 ++ (V1 ++ (V2 ++ S)))) = p ++ ((U1 ++ (U2 ++ (V1 ++ V2))) ++ S) := by simp
      rw [f6]
      refine (InsTo.parts (by omega) (by simp; omega)).2 ⟨L ++ R, by simp, ?_, ?_⟩
      · refine (pL.append pR).trans ?_
        have : ((U1 ++ V1) ++ (U2 ++ V2)).Perm (U1 ++ (U2 ++ (V1 ++ V2))) := by
          rw [List.append_assoc]
          refine List.Perm.append_left U1 ?_
          rw [← List.append_assoc, ← List.append_assoc]
          exact List.Perm.append_right V2 List.perm_append_comm
        exact this
      · refine Srt.perm_cross (fun x hx y hy => ?_) pL pR sL sR
        rcases List.mem_append.1 hx with hx | hx <;> rcases List.mem_append.1 hy with hy | hy
        · exact xU x hx y hy
        · exact cA x hx y hy
        · exact cB x hx y hy
        · exact xV x hx y hy
/-- one element ahead of a sorted part -/
theorem one_law (w : Weak r) {xs : List α} {a i b : Nat} (h1 : a + 1 ≤ i) (h2 : i ≤ b) (h5 : b ≤ xs.length) (hV : Srt r (seg xs (a + 1) b)) (c1 : i = a + 1 ∨ r xs[i - 1]! xs[a]! < 0) (c2 : i = b ∨ ¬ r xs[i]! xs[a]! < 0) : InsTo r xs a b (bubUp xs a (i - 1 - a)) := by
  obtain ⟨p, q1, e1, lp⟩ : ∃ p q1, xs = p ++ q1 ∧ p.length = a := ⟨xs.take a, xs.drop a, (List.take_append_drop _ _).symm, by simp; omega⟩
  have lq1 : q1.length = xs.length - a := by have := congrArg List.length e1; simp at this; omega
  match q1, lq1 with
  | [], lq1 => simp at lq1; omega
  | x :: q2, lq1 =>
  simp at lq1
  obtain ⟨V1, q3, e3, lv1⟩ : ∃ V1 q3, q2 = V1 ++ q3 ∧ V1.length = i - 1 - a := ⟨q2.take (i - 1 - a), q2.drop (i - 1 - a), (List.take_append_drop _ _).symm, by simp; omega⟩
  have lq3 : q3.length = xs.length - i := by have := congrArg List.length e3; simp at this; omega
  obtain ⟨V2, S, e4, lv2⟩ : ∃ V2 S, q3 = V2 ++ S ∧ V2.length = b - i := ⟨q3.take (b - i), q3.drop (b - i), (List.take_append_drop _ _).symm, by simp; omega⟩
  subst e4; subst e3
  clear lq1 lq3
  subst e1
  have g2 : seg (p ++ (x :: (V1 ++ (V2 ++ S)))) (a + 1) b = V1 ++ V2 := by
    have : p ++ (x :: (V1 ++ (V2 ++ S))) = (p ++ [x]) ++ ((V1 ++ V2) ++ S) := by simp
    rw [this]; exact seg_parts (by simp; omega) (by simp; omega)
  rw [g2] at hV
  obtain ⟨sV1, sV2, xV⟩ := Srt.app.1 hV
  have hx : (p ++ (x :: (V1 ++ (V2 ++ S))))[a]! = x := get_mid lp.symm
  rw [hx] at c1 c2
  have cA : ∀ y ∈ V1, ∀ z ∈ [x], ¬ r z y < 0 := by
    refine srt_cross w sV1 (List.pairwise_singleton _ _) (fun y z hy hz => ?_)
    simp at hz; subst hz
    have ny : V1 ≠ [] := by rintro rfl; cases hy
    have : 0 < V1.length := List.length_pos_iff.2 ny
    have k : (p ++ (x :: (V1 ++ (V2 ++ S))))[i - 1]! = y := by
      have e5 : p ++ (x :: (V1 ++ (V2 ++ S))) = (p ++ [x]) ++ (V1 ++ (V2 ++ S)) := by simp
      rw [e5]; exact get_last hy (by simp; omega)
    rw [k] at c1
    rcases c1 with c | c
    · omega
    · exact w.asym _ _ c
  have cB : ∀ z ∈ [x], ∀ y ∈ V2, ¬ r y z < 0 := by
    refine srt_cross w (List.pairwise_singleton _ _) sV2 (fun z y hz hy => ?_)
    simp at hz; subst hz
    have ny : V2 ≠ [] := by rintro rfl; cases hy
    have : 0 < V2.length := List.length_pos_iff.2 ny
    have k : (p ++ (x :: (V1 ++ (V2 ++ S))))[i]! = y := by
      have e5 : p ++ (x :: (V1 ++ (V2 ++ S))) = (p ++ (x :: V1)) ++ (V2 ++ S) := by simp
      rw [e5]; exact get_head hy (by simp; omega)
    rw [k] at c2
    rcases c2 with c | c
    · omega
    · exact c
  have hb := bubUp_eq V1 p (V2 ++ S) x
  rw [show i - 1 - a = V1.length by omega, ← lp, hb]
  have f6 : p ++ (x :: (V1 ++ (V2 ++ S))) = p ++ ((x :: (V1 ++ V2)) ++ S) := by simp
  rw [f6]
  refine (InsTo.parts rfl (by simp; omega)).2 ⟨V1 ++ (x :: V2), by simp, List.perm_middle, ?_⟩
  refine Srt.app.2 ⟨sV1, Srt.app (u := [x]).2 ⟨List.pairwise_singleton _ _, sV2, cB⟩, fun y hy z hz => ?_⟩
  rcases List.mem_cons.1 hz with rfl | hz
  · exact cA y hy z (by simp)
  · exact xV y hy z hz
/-- one element behind a sorted part -/
theorem two_law (w : Weak r) {xs : List α} {a i m : Nat} (h1 : a ≤ i) (h2 : i ≤ m) (h5 : m < xs.length) (hU : Srt r (seg xs a m)) (c1 : i = a ∨ ¬ r xs[m]! xs[i - 1]! < 0) (c2 : i = m ∨ r xs[m]! xs[i]! < 0) : InsTo r xs a (m + 1) (bubDn xs m (m - i)) := by
  obtain ⟨p, U1, q1, e1, lp, lu1, _⟩ := parts3 xs h1 (by omega : i ≤ xs.length)
  have lq1 : q1.length = xs.length - i := by have := congrArg List.length e1; simp at this; omega
  obtain ⟨U2, q2, e2, lu2, lq2⟩ : ∃ U2 q2, q1 = U2 ++ q2 ∧ U2.length = m - i ∧ q2.length = xs.length - m := ⟨q1.take (m - i), q1.drop (m - i), (List.take_append_drop _ _).symm, by simp; omega, by simp; omega⟩
  match q2, lq2 with
  | [], lq2 => simp at lq2; omega
  | x :: S, lq2 =>
  subst e2
  clear lq1 lq2
  subst e1
  have g1 : seg (p ++ (U1 ++ (U2 ++ (x :: S)))) a m = U1 ++ U2 := by
    have : p ++ (U1 ++ (U2 ++ (x :: S))) = p ++ ((U1 ++ U2) ++ (x :: S)) := by simp
    rw [this]; exact seg_parts (by omega) (by simp; omega)
  rw [g1] at hU
  obtain ⟨sU1, sU2, xU⟩ := Srt.app.1 hU
  have hx : (p ++ (U1 ++ (U2 ++ (x :: S))))[m]! = x := by
    have e5 : p ++ (U1 ++ (U2 ++ (x :: S))) = (p ++ (U1 ++ U2)) ++ (x :: S) := by simp
    rw [e5]; exact get_mid (by simp; omega)
  rw [hx] at c1 c2
  have cA : ∀ y ∈ U1, ∀ z ∈ [x], ¬ r z y < 0 := by
    refine srt_cross w sU1 (List.pairwise_singleton _ _) (fun y z hy hz => ?_)
    simp at hz; subst hz
    have ny : U1 ≠ [] := by rintro rfl; cases hy
    have : 0 < U1.length := List.length_pos_iff.2 ny
    have k : (p ++ (U1 ++ (U2 ++ (x :: S))))[i - 1]! = y := get_last hy (by omega)
    rw [k] at c1
    rcases c1 with c | c
    · omega
    · exact c
  have cB : ∀ z ∈ [x], ∀ y ∈ U2, ¬ r y z < 0 := by
    refine srt_cross w (List.pairwise_singleton _ _) sU2 (fun z y hz hy => ?_)
    simp at hz; subst hz
    have ny : U2 ≠ [] := by rintro rfl; cases hy
    have : 0 < U2.length := List.length_pos_iff.2 ny
    have k : (p ++ (U1 ++ (U2 ++ (x :: S))))[i]! = y := by
      have e5 : p ++ (U1 ++ (U2 ++ (x :: S))) = (p ++ U1) ++ (U2 ++ (x :: S)) := by simp
      rw [e5]; exact get_head hy (by simp; omega)
    rw [k] at c2
    rcases c2 with c | c
    · omega
    · exact w.asym _ _ c
  have hb := bubDn_eq U2 (p ++ U1) S x
  have f6 : p ++ (U1 ++ (U2 ++ (x :: S))) = (p ++ U1) ++ (U2 ++ (x :: S)) := by simp
  have hm : m = (p ++ U1).length + U2.length := by simp; omega
  rw [f6]
  have hb2 : bubDn ((p ++ U1) ++ (U2 ++ (x :: S))) m (m - i) = (p ++ U1) ++ (x :: (U2 ++ S)) := by
    rw [← hb]; congr 1; omega
  rw [hb2]
  have f7 : (p ++ U1) ++ (U2 ++ (x :: S)) = p ++ ((U1 ++ (U2 ++ [x])) ++ S) := by simp
  rw [f7]
  refine (InsTo.parts (by omega) (by simp; omega)).2 ⟨U1 ++ (x :: U2), by simp, ?_, ?_⟩
  · exact List.Perm.append_left U1 (List.perm_append_singleton x U2).symm
  · refine Srt.app.2 ⟨sU1, Srt.app (u := [x]).2 ⟨List.pairwise_singleton _ _, sU2, cB⟩, fun y hy z hz => ?_⟩
    rcases List.mem_cons.1 hz with rfl | hz
    · exact cA y hy z (by simp)
    · exact xU y hy z hz
end
end Go.Proofs.Ythdhnkgnbdociaa
