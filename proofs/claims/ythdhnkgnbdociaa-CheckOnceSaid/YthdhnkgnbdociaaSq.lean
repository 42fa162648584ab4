/- Plain facts on a stable sort by merging in place: joins, exchanges of parts, rotation, the halves. No condition. -/
import Derived.Test.YthdhnkgnbdociaaSp
namespace Go.Proofs.Ythdhnkgnbdociaa
set_option linter.all false
set_option maxHeartbeats 40000000
set_option synthInstance.maxHeartbeats 2000000
set_option synthInstance.maxSize 100000
section
variable {α : Type} [Inhabited α]
theorem Srt.app {r : α → α → Int} {u v : List α} : Srt r (u ++ v) ↔ Srt r u ∧ Srt r v ∧ ∀ x ∈ u, ∀ y ∈ v, ¬ r y x < 0 := List.pairwise_append
/-- two sorted parts whose borders fit -/
theorem srt_cross {r : α → α → Int} (w : Weak r) {u v : List α} (hu : Srt r u) (hv : Srt r v) (h : ∀ x y, u.getLast? = some x → v.head? = some y → ¬ r y x < 0) : ∀ x ∈ u, ∀ y ∈ v, ¬ r y x < 0 := by
  intro x hx y hy
  rcases List.eq_nil_or_concat u with rfl | ⟨u', a, rfl⟩
  · cases hx
  match v, hy with
  | b :: v', hy =>
    simp only [List.concat_eq_append] at *
    have hb := h a b (by simp) rfl
    have h1 : ¬ r a x < 0 := by
      rcases List.mem_append.1 hx with hx | hx
      · exact (Srt.app.1 hu).2.2 x hx a (by simp)
      · simp at hx; subst hx; exact w.irr x
    have h2 : ¬ r y b < 0 := by
      rcases List.mem_cons.1 hy with rfl | hy
      · exact w.irr y
      · exact (List.pairwise_cons.1 hv).1 y hy
    exact w.tr x b y (w.tr x a b h1 hb) h2
theorem srt_join {r : α → α → Int} (w : Weak r) {u v : List α} (hu : Srt r u) (hv : Srt r v) (h : ∀ x y, u.getLast? = some x → v.head? = some y → ¬ r y x < 0) : Srt r (u ++ v) :=
  Srt.app.2 ⟨hu, hv, srt_cross w hu hv h⟩
theorem Srt.perm_cross {r : α → α → Int} {u v l m : List α} (h : ∀ x ∈ u, ∀ y ∈ v, ¬ r y x < 0) (pl : l.Perm u) (pm : m.Perm v) (hl : Srt r l) (hm : Srt r m) : Srt r (l ++ m) :=
  Srt.app.2 ⟨hl, hm, fun x hx y hy => h x (pl.mem_iff.1 hx) y (pm.mem_iff.1 hy)⟩
theorem get_last {p u q : List α} {x : α} (h : u.getLast? = some x) {j : Nat} (hj : j + 1 = p.length + u.length) : (p ++ (u ++ q))[j]! = x := by
  rcases List.eq_nil_or_concat u with rfl | ⟨u', a, rfl⟩
  · cases h
  simp only [List.concat_eq_append, List.getLast?_concat, Option.some.injEq] at h hj ⊢
  subst h
  have : p ++ (u' ++ [a] ++ q) = (p ++ u') ++ a :: q := by simp
  rw [this]; exact get_mid (by simp at hj ⊢; omega)
theorem get_head {p v q : List α} {y : α} (h : v.head? = some y) {j : Nat} (hj : j = p.length) : (p ++ (v ++ q))[j]! = y := by
  match v, h with
  | b :: v', h => simp at h; subst h; exact get_mid hj

/-- k places from a on and from b on change what they hold -/
def swpR (xs : List α) (a b : Nat) : Nat → List α
  | 0 => xs
  | k + 1 => swp (swpR xs a b k) (a + k) (b + k)
theorem swpR_length (xs : List α) (a b k : Nat) : (swpR xs a b k).length = xs.length := by
  induction k with
  | zero => rfl
  | succ k ih => simp [swpR, swp_length, ih]
theorem swpR_aux : ∀ (k : Nat) (p x m y s : List α), x.length = y.length → k ≤ x.length → swpR (p ++ (x ++ (m ++ (y ++ s)))) p.length (p.length + x.length + m.length) k = p ++ ((y.take k ++ x.drop k) ++ (m ++ ((x.take k ++ y.drop k) ++ s)))
  | 0, p, x, m, y, s, _, _ => by simp [swpR]
  | k + 1, p, x, m, y, s, hl, hk => by
    have ih := swpR_aux k p x m y s hl (by omega)
    have hx : x.drop k = x[k] :: x.drop (k + 1) := List.drop_eq_getElem_cons (by omega)
    have hy : y.drop k = y[k] :: y.drop (k + 1) := List.drop_eq_getElem_cons (by omega)
    have tx : x.take (k + 1) = x.take k ++ [x[k]] := List.take_succ_eq_append_getElem (by omega)
    have ty : y.take (k + 1) = y.take k ++ [y[k]] := List.take_succ_eq_append_getElem (by omega)
    rw [swpR, ih, hx, hy, tx, ty]
    have l1 : (x.take k).length = k := by simp; omega
    have l2 : (y.take k).length = k := by simp; omega
    have l3 : (x.drop (k + 1)).length = x.length - (k + 1) := by simp
    have := swp_mid (p ++ y.take k) (x.drop (k + 1) ++ (m ++ x.take k)) (y.drop (k + 1) ++ s) x[k] y[k] (i := p.length + k) (j := p.length + x.length + m.length + k) (by simp [l2]) (by simp [l2, l1, l3]; omega)
    simp only [List.append_assoc, List.cons_append, List.nil_append] at this ⊢
    exact this
theorem swpR_parts (p x m y s : List α) (hl : x.length = y.length) : swpR (p ++ (x ++ (m ++ (y ++ s)))) p.length (p.length + x.length + m.length) x.length = p ++ (y ++ (m ++ (x ++ s))) := by
  rw [swpR_aux x.length p x m y s hl (Nat.le_refl _), List.take_of_length_le (Nat.le_of_eq hl.symm), List.take_length, List.drop_length, List.drop_of_length_le (Nat.le_of_eq hl.symm)]
  simp

/-- a rotation under way: x at i places ahead of m, y at j places from m on; they are to change places -/
def RotAt (m i j : Nat) (zs T : List α) : Prop := ∃ p x y s : List α, zs = p ++ (x ++ (y ++ s)) ∧ T = p ++ (y ++ (x ++ s)) ∧ x.length = i ∧ y.length = j ∧ p.length + i = m
theorem RotAt.gt {m i j : Nat} {zs T : List α} (h : RotAt m i j zs T) (hij : j < i) : RotAt m (i - j) j (swpR zs (m - i) m j) T := by
  obtain ⟨p, x, y, s, rfl, rfl, hx, hy, hp⟩ := h
  have e : x = x.take j ++ x.drop j := (List.take_append_drop j x).symm
  have l1 : (x.take j).length = j := by simp; omega
  have l2 : (x.drop j).length = i - j := by simp; omega
  refine ⟨p ++ y, x.drop j, x.take j, s, ?_, ?_, l2, l1, by simp; omega⟩
  · have := swpR_parts p (x.take j) (x.drop j) y s (by omega)
    rw [l1, l2, ← List.append_assoc (x.take j), ← e] at this
    rw [show m - i = p.length by omega, show m = p.length + j + (i - j) by omega, this]
    simp
  · rw [← List.append_assoc (x.take j), ← e]; simp
theorem RotAt.lt {m i j : Nat} {zs T : List α} (h : RotAt m i j zs T) (hij : i < j) : RotAt m i (j - i) (swpR zs (m - i) (m + j - i) i) T := by
  obtain ⟨p, x, y, s, rfl, rfl, hx, hy, hp⟩ := h
  have e : y = y.take (j - i) ++ y.drop (j - i) := (List.take_append_drop (j - i) y).symm
  have l1 : (y.take (j - i)).length = j - i := by simp; omega
  have l2 : (y.drop (j - i)).length = i := by simp; omega
  refine ⟨p, y.drop (j - i), y.take (j - i), x ++ s, ?_, ?_, l2, l1, hp⟩
  · have := swpR_parts p x (y.take (j - i)) (y.drop (j - i)) s (by omega)
    rw [l1, hx, ← List.append_assoc (y.take (j - i)), ← e] at this
    rw [show m - i = p.length by omega, show m + j - i = p.length + i + (j - i) by omega, this]
  · rw [← List.append_assoc (y.take (j - i)), ← e]
theorem RotAt.eq {m i : Nat} {zs T : List α} (h : RotAt m i i zs T) : swpR zs (m - i) m i = T := by
  obtain ⟨p, x, y, s, rfl, rfl, hx, hy, hp⟩ := h
  have := swpR_parts p x [] y s (by omega)
  simp only [List.length_nil, Nat.add_zero, List.nil_append, hx] at this
  rw [show m - i = p.length by omega, show m = p.length + i by omega, this]

/-- one element goes up, or down, place by place -/
def bubUp (xs : List α) (a : Nat) : Nat → List α
  | 0 => xs
  | k + 1 => swp (bubUp xs a k) (a + k) (a + k + 1)
theorem bubUp_length (xs : List α) (a k : Nat) : (bubUp xs a k).length = xs.length := by
  induction k with
  | zero => rfl
  | succ k ih => simp [bubUp, swp_length, ih]
theorem bubUp_aux (v p s : List α) (x : α) : ∀ k, k ≤ v.length → bubUp (p ++ (x :: (v ++ s))) p.length k = p ++ (v.take k ++ (x :: (v.drop k ++ s)))
  | 0, _ => by simp [bubUp]
  | k + 1, hk => by
    have hv : v.drop k = v[k] :: v.drop (k + 1) := List.drop_eq_getElem_cons (by omega)
    have tv : v.take (k + 1) = v.take k ++ [v[k]] := List.take_succ_eq_append_getElem (by omega)
    have l1 : (v.take k).length = k := by simp; omega
    rw [bubUp, bubUp_aux v p s x k (by omega), hv, tv]
    have := swp_mid (p ++ v.take k) [] (v.drop (k + 1) ++ s) x v[k] (i := p.length + k) (j := p.length + k + 1) (by simp [l1]) (by simp [l1])
    simp only [List.append_assoc, List.cons_append, List.nil_append] at this ⊢
    exact this
theorem bubUp_eq (v p s : List α) (x : α) : bubUp (p ++ (x :: (v ++ s))) p.length v.length = p ++ (v ++ (x :: s)) := by
  rw [bubUp_aux v p s x v.length (Nat.le_refl _)]; simp
def bubDn (xs : List α) (m : Nat) : Nat → List α
  | 0 => xs
  | k + 1 => swp (bubDn xs m k) (m - k) (m - k - 1)
theorem bubDn_length (xs : List α) (a k : Nat) : (bubDn xs a k).length = xs.length := by
  induction k with
  | zero => rfl
  | succ k ih => simp [bubDn, swp_length, ih]
theorem bubDn_eq : ∀ (v p s : List α) (x : α), bubDn (p ++ (v ++ (x :: s))) (p.length + v.length) v.length = p ++ (x :: (v ++ s)) := by
  intro v
  induction v with
  | nil => intro p s x; rfl
  | cons y v ih =>
    intro p s x
    rw [List.length_cons, bubDn]
    have e : p ++ (y :: v ++ (x :: s)) = (p ++ [y]) ++ (v ++ (x :: s)) := by simp
    have := ih (p ++ [y]) s x
    rw [e, show p.length + (v.length + 1) = (p ++ [y]).length + v.length by simp; omega, this]
    have h2 := swp_mid p [] (v ++ s) y x (i := p.length) (j := p.length + 1) rfl (by simp)
    rw [swp_comm _ _ _ (by simp)]
    simpa [show p.length + 1 + v.length - v.length = p.length + 1 by omega] using h2
end
end Go.Proofs.Ythdhnkgnbdociaa
