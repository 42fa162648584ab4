/- Function values that answer by a plain function; plain facts on lists. No condition. -/
import Derived.Test.YthdhnkgnbdociaaSn
import Derived.Test.YthdhnkgnbdociaaNu
import Derived.Test.YthdhnkgnbdociaaSp
set_option linter.all false
namespace Go.Proofs.Ythdhnkgnbdociaa
open Go Go.RowKit
section
variable {P : Program} {f : Fr} {σ : St} {ty : TypeId}
instance StepV.extract {x : Operand} {l : List Value} {i : Nat} {v : Value} [h : Ev f x (.tuple l.toArray)] [a : AtA l i v] : StepV P (.extract x i) ty f σ v := ⟨by
  have := a.eq
  simp [execOp, h.eq, Instr.extract, this]⟩
instance StepV.makeFunc {fn : Fn} {fst cap : List Operand} {us vs : List Value} [h : EvL f fst us] [g : EvL f cap vs] : StepV P (.makeFunc fn fst.toArray cap.toArray) ty f σ (.func fn us.toArray vs.toArray) := ⟨by
  simp [execOp, Instr.makeFunc, h.eq, g.eq]⟩
end
/-- what a plain answer is, where it is known: laid by hand ahead of the step -/
class Is {β : Type} (x : β) (v : outParam β) : Prop where
  eq : x = v
instance (priority := low) Is.self {β : Type} {x : β} : Is x x := ⟨rfl⟩
/-- a place, or none, as a number -/
def optI : Option Nat → Int
  | none => -1
  | some i => i
class OptI (o : Option Nat) (v : outParam Int) : Prop where
  eq : optI o = v
instance OptI.none_ : OptI none (-1) := ⟨rfl⟩
instance OptI.some_ {i : Nat} : OptI (some i) (i : Int) := ⟨rfl⟩
instance (priority := low) OptI.self {o : Option Nat} : OptI o (optI o) := ⟨rfl⟩
/-- a function value that answers yes or no, as long as no more than X turns -/
class PredF (P : Program) (σ : St) (X : Xs) (fv : Value) {α : outParam Type} (E : outParam (Elem α)) (p : outParam (α → Bool)) : Prop where
  rule : ∀ (σ' : St) (x : α), Nx σ σ' X → OkE σ' E x → ValRule P fv [E.val x] σ' (fun K _ => ∀ σ'', Nx σ' σ'' .no → K (.bool (p x)) σ'')
/-- a function literal that has one variable of ours: what it answers, as long as the variable holds cs -/
class Clos1 (P : Program) (g : FuncId) (t : TypeId) (cs : Array Value) {α : outParam Type} (E : outParam (Elem α)) (p : outParam (α → Bool)) : Prop where
  rule : ∀ (σ : St) (b : Nat) (x : α), Own σ b t cs → OkE σ E x → CallRule P g [E.val x, .pointer (some ⟨b, 0, none⟩)] σ (fun K _ => ∀ σ', Nx σ σ' .no → K (.bool (p x)) σ')
instance PredF.clos1 {P : Program} {σ : St} {X : Xs} {g : FuncId} {b : Nat} {t : TypeId} {cs : Array Value} {α : Type} {E : Elem α} {p : α → Bool} [i : Fnc P g] [o : Own σ b t cs] [c : Clos1 P g t cs E p] [k : Mis σ X b t] : PredF P σ X (.func (.func g) #[] #[.pointer (some ⟨b, 0, none⟩)]) E p :=
  ⟨fun σ' x n ok => by
    haveI := c.rule σ' b x (o.lift n.p (k.h _ _ o.h n.p.ty)) ok
    exact ValRule.closure (cap := [.pointer (some ⟨b, 0, none⟩)])⟩
class Clos0 (P : Program) (g : FuncId) {α : outParam Type} (E : outParam (Elem α)) (p : outParam (α → Bool)) : Prop where
  rule : ∀ (σ : St) (x : α), OkE σ E x → CallRule P g [E.val x] σ (fun K _ => ∀ σ', Nx σ σ' .no → K (.bool (p x)) σ')
instance PredF.clos0 {P : Program} {σ : St} {X : Xs} {g : FuncId} {α : Type} {E : Elem α} {p : α → Bool} [i : Fnc P g] [c : Clos0 P g E p] : PredF P σ X (.func (.func g) #[] #[]) E p :=
  ⟨fun σ' x n ok => by
    haveI := c.rule σ' x ok
    exact ValRule.static⟩
section
variable {α : Type} [Inhabited α]
theorem take_snoc {xs : List α} {i : Nat} (h : i < xs.length) : xs.take (i + 1) = xs.take i ++ [xs[i]!] := by
  rw [List.take_succ_eq_append_getElem h, getElem!_pos xs i h]
theorem drop_cons {xs : List α} {i : Nat} (h : i < xs.length) : xs.drop i = xs[i]! :: xs.drop (i + 1) := by
  rw [List.drop_eq_getElem_cons h, getElem!_pos xs i h]
/-- the first that is so lies at i -/
theorem findIdx_at {p : α → Bool} {xs : List α} {i : Nat} (h : i < xs.length) (h1 : ∀ x ∈ xs.take i, p x = false) (h2 : p xs[i]! = true) : xs.findIdx? p = some i := by
  rw [List.findIdx?_eq_some_iff_getElem]
  refine ⟨h, by rw [getElem!_pos xs i h] at h2; exact h2, fun j hj => ?_⟩
  have := h1 xs[j] (by rw [List.mem_take_iff_getElem]; exact ⟨j, by omega, rfl⟩)
  simp [this]
theorem findIdx_none {p : α → Bool} {xs : List α} (h : ∀ x ∈ xs, p x = false) : xs.findIdx? p = none := by
  rw [List.findIdx?_eq_none_iff]; exact h
theorem all_take_succ {q : α → Prop} {xs : List α} {i : Nat} (h : i < xs.length) (h1 : ∀ x ∈ xs.take i, q x) (h2 : q xs[i]!) : ∀ x ∈ xs.take (i + 1), q x := by
  intro x hx
  rw [take_snoc h] at hx
  rcases List.mem_append.1 hx with hx | hx
  · exact h1 x hx
  · rw [List.mem_singleton] at hx; subst hx; exact h2
theorem spl_eq {xs p q r vs : List α} {l n : Nat} (hx : xs = p ++ q ++ r) (hl : p.length = l) (hq : q.length = vs.length) (hn : xs.length = n) : (xs.take l ++ vs ++ xs.drop (l + vs.length)).take n = p ++ vs ++ r := by
  subst hl
  have h1 : xs.take p.length = p := by rw [hx, List.append_assoc, List.take_left]
  have h2 : xs.drop (p.length + vs.length) = r := by
    have : p.length + vs.length = (p ++ q).length := by simp [hq]
    rw [hx, this, List.drop_left]
  rw [h1, h2]
  apply List.take_of_length_le
  rw [← hn, hx]; simp [hq]
theorem cons_of_pos {l : List α} (h : 0 < l.length) : l = l[0]! :: l.drop 1 := by
  match l, h with
  | a :: l, _ => rfl
instance {r : α → α → Int} {s : List α} : Decidable (Srt r s) := inferInstanceAs (Decidable (List.Pairwise _ _))
/-- sorted, told by neighbours -/
theorem srt_of_adj {r : α → α → Int} [w : Weak r] {xs : List α} (h : ∀ i, 0 < i → i < xs.length → ¬ r xs[i]! xs[i - 1]! < 0) : Srt r xs := by
  have key : ∀ (j i : Nat), i + j < xs.length → ¬ r xs[i + j]! xs[i]! < 0 := by
    intro j
    induction j with
    | zero => intro i _; exact w.irr _
    | succ j ih =>
      intro i hij
      have h1 := ih i (by omega)
      have h2 := h (i + j + 1) (by omega) hij
      rw [Nat.add_sub_cancel] at h2
      exact w.tr _ _ _ h1 h2
  unfold Srt
  rw [List.pairwise_iff_getElem]
  intro i j hi hj hij
  have := key (j - i) i (by omega)
  rw [show i + (j - i) = j by omega] at this
  rwa [getElem!_pos xs j hj, getElem!_pos xs i hi] at this
theorem srt_adj' {r : α → α → Int} {xs : List α} (h : Srt r xs) {i : Nat} (h0 : 0 < i) (h1 : i < xs.length) : ¬ r xs[i]! xs[i - 1]! < 0 := by
  unfold Srt at h
  rw [List.pairwise_iff_getElem] at h
  have := h (i - 1) i (by omega) h1 (by omega)
  rwa [getElem!_pos xs i h1, getElem!_pos xs (i - 1) (by omega)]
/-- how many lie below -/
def lowI (r : α → α → Int) (xs : List α) (t : α) : Nat := (xs.takeWhile fun x => decide (r x t < 0)).length
theorem lowI_of {r : α → α → Int} {xs : List α} {t : α} {i : Nat} (hi : i ≤ xs.length) (h1 : ∀ k, k < i → r xs[k]! t < 0) (h2 : i < xs.length → ¬ r xs[i]! t < 0) : lowI r xs t = i := by
  unfold lowI
  induction xs generalizing i with
  | nil => simp at hi; subst hi; rfl
  | cons x xs ih =>
    cases i with
    | zero =>
      have := h2 (by simp)
      simp at this
      simp [List.takeWhile_cons, this]
    | succ i =>
      have hx := h1 0 (by omega)
      simp at hx
      rw [List.takeWhile_cons]
      simp only [hx, decide_true, if_true, List.length_cons]
      rw [ih (by simpa using hi) (fun k hk => by have := h1 (k + 1) (by omega); simpa using this) (fun h => by have := h2 (by simpa using h); simpa using this)]
theorem srt_mono {r : α → α → Int} [w : Weak r] {xs : List α} {t : α} (h : Srt r xs) {i j : Nat} (hij : i ≤ j) (hj : j < xs.length) : (r xs[j]! t < 0 → r xs[i]! t < 0) := by
  intro h1
  rcases Nat.lt_or_ge i j with hl | hg
  · unfold Srt at h
    rw [List.pairwise_iff_getElem] at h
    have h2 := h i j (by omega) hj hl
    rw [← getElem!_pos xs j hj, ← getElem!_pos xs i (by omega)] at h2
    by_cases h3 : r xs[i]! t < 0
    · exact h3
    · exact absurd h1 (w.tr _ _ _ h3 h2)
  · have : i = j := by omega
    subst this; exact h1
theorem take_all {xs : List α} {n : Nat} (h : xs.length = n) : xs.take n = xs := List.take_of_length_le (by omega)
end
end Go.Proofs.Ythdhnkgnbdociaa
