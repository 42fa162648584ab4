/- The engine, part 4: slices. 'SL': a slice that nobody writes, read as a list; 'Row': a slice that the call itself writes. No condition. -/
import Derived.Laws.AppendOwn
import Derived.Laws.MakeOwn
import Derived.Maps.AppendAt
import Derived.Laws.CopyRow
import Derived.Test.YthdhnkgnbdociaaGo
set_option linter.all false
namespace Go.Proofs.Ythdhnkgnbdociaa
open Go Go.RowKit

/-! ### Elements -/
structure Elem (α : Type) where
  sz : Nat
  agg : Bool
  val : α → Value
  ok : St → α → Prop
  nx : ∀ (σ σ' : St) (X : Xs) (x : α), NxP σ σ' X → ok σ x → ok σ' x := by intros; trivial
  wk : ∀ (σ σ' : St) (x : α), σ'.w = σ.w → (∀ b, σ'.M b → σ.M b) → ok σ x → ok σ' x := by intros; trivial
  pos : 0 < sz
  size : ∀ x, (val x).cells.size = sz
  one : ∀ x, ∀ v ∈ (val x).cells.toList, v.oneCell' = true
  shapeA : ∀ x, agg = true → val x = .agg (val x).cells
  shape1 : ∀ x, agg = false → (val x).cells = #[val x]

section
variable {α : Type} (E : Elem α)
def Elem.flat (xs : List α) : List Value := xs.flatMap fun x => (E.val x).cells.toList
theorem Elem.flat_nil : E.flat [] = [] := rfl
theorem Elem.flat_cons (x : α) (xs : List α) : E.flat (x :: xs) = (E.val x).cells.toList ++ E.flat xs := rfl
theorem Elem.flat_append (xs ys : List α) : E.flat (xs ++ ys) = E.flat xs ++ E.flat ys := by simp [Elem.flat]
theorem Elem.flat_length (xs : List α) : (E.flat xs).length = xs.length * E.sz := by
  induction xs with
  | nil => simp [Elem.flat]
  | cons x xs ih => rw [E.flat_cons, List.length_append, ih, List.length_cons, Nat.add_mul]; simp [E.size]; omega
theorem Elem.flat_get (xs : List α) : ∀ (i j : Nat) (h : i < xs.length), j < E.sz → (E.flat xs)[i * E.sz + j]? = (E.val xs[i]).cells[j]? := by
  induction xs with
  | nil => intro i j h; simp at h
  | cons x xs ih =>
    intro i j h hj
    cases i with
    | zero => rw [E.flat_cons, Nat.zero_mul, Nat.zero_add, List.getElem?_append_left (by simpa [E.size] using hj)]; simp
    | succ i =>
      rw [E.flat_cons, List.getElem?_append_right (by simp [E.size, Nat.add_mul]; omega)]
      have : (i + 1) * E.sz + j - (E.val x).cells.toList.length = i * E.sz + j := by simp [E.size, Nat.add_mul]; omega
      rw [this, ih i j (by simpa using h) hj]
      simp
theorem Elem.flat_one {xs : List α} : ∀ v ∈ E.flat xs, v.oneCell' = true := by
  intro v hv
  obtain ⟨x, _, h⟩ := List.mem_flatMap.1 hv
  exact E.one x v h
theorem Elem.flat_take (xs : List α) (k : Nat) : (E.flat xs).take (k * E.sz) = E.flat (xs.take k) := by
  induction xs generalizing k with
  | nil => simp [Elem.flat]
  | cons x xs ih =>
    cases k with
    | zero => simp [Elem.flat]
    | succ k => rw [List.take_succ_cons, E.flat_cons, E.flat_cons, List.take_append, ← ih k, List.take_of_length_le (by simp [E.size, Nat.add_mul])]; simp [E.size, Nat.add_mul]
theorem Elem.flat_drop (xs : List α) (k : Nat) : (E.flat xs).drop (k * E.sz) = E.flat (xs.drop k) := by
  induction xs generalizing k with
  | nil => simp [Elem.flat]
  | cons x xs ih =>
    cases k with
    | zero => simp
    | succ k => rw [List.drop_succ_cons, E.flat_cons, List.drop_append, ← ih k, List.drop_eq_nil_of_le (by simp [E.size, Nat.add_mul])]; simp [E.size, Nat.add_mul]
end

/-- the elements of a type; how an element's value is spelt; its zero -/
class ElemOf (P : Program) (t : TypeId) {α : outParam Type} (E : outParam (Elem α)) (bytes : outParam Nat) : Prop where
  ti : TI P t E.agg E.sz bytes
class FlatV {α : Type} (E : Elem α) (val : outParam (α → Value)) : Prop where
  eq : E.val = val
class EncV (σ : St) {α : Type} (E : Elem α) (v : Value) (x : outParam α) : Prop where
  eq : v = E.val x
  ok : E.ok σ x
class EncL (σ : St) {α : Type} (E : Elem α) (vs : List Value) (xs : outParam (List α)) : Prop where
  eq : vs = xs.map E.val
  ok : ∀ x ∈ xs, E.ok σ x
instance EncL.nil {σ : St} {α : Type} {E : Elem α} : EncL σ E [] [] := ⟨rfl, by simp⟩
instance EncL.cons {σ : St} {α : Type} {E : Elem α} {v : Value} {vs : List Value} {x : α} {xs : List α} [h : EncV σ E v x] [g : EncL σ E vs xs] : EncL σ E (v :: vs) (x :: xs) :=
  ⟨by simp [h.eq, g.eq], fun y hy => by rcases List.mem_cons.1 hy with rfl | hy; exact h.ok; exact g.ok y hy⟩
/-- what is known of a value, beyond its cells -/
class OkE (σ : St) {α : Type} (E : Elem α) (x : α) : Prop where
  h : E.ok σ x
instance (priority := low) OkE.lift {σ σ' : St} {α : Type} {E : Elem α} {x : α} {X : Xs} [n : Nx σ σ' X] [k : OkE σ E x] : OkE σ' E x := ⟨E.nx _ _ _ _ n.p k.h⟩
class ZeroE (P : Program) (t : TypeId) {α : Type} (E : Elem α) (z : outParam α) : Prop where
  h : ∃ i v, P.info? t = some i ∧ i.zero = some v ∧ v.cells = (E.val z).cells
  ok : ∀ σ, E.ok σ z

/-- a slice's head, and what it holds -/
structure Hd (α : Type) where
  A : Option Addr
  n : Nat
  c : Nat
  l : List α
instance {α : Type} : Inhabited (Hd α) := ⟨⟨none, 0, 0, []⟩⟩

/-! ### What is known of a slice -/
class SL (σ : St) (A : Option Addr) (n c : outParam Nat) {α : outParam Type} (E : outParam (Elem α)) (xs : outParam (List α)) : Prop where
  len : xs.length = n
  le : n ≤ c
  max : n ≤ 9223372036854775807
  ok : ∀ x ∈ xs, E.ok σ x
  rd : n = 0 ∨ ∃ b o, A = some ⟨b, o, none⟩ ∧ ¬ σ.M b ∧ b < σ.w.heap.size ∧ ∀ j v, (E.flat xs)[j]? = some v → σ.w.cell? ⟨b, o + j, none⟩ = some v
/-- a slice that the call itself writes: a block from its beginning on; 'zs' is all that the block has room for -/
class Row (σ : St) (A : Option Addr) (n c : outParam Nat) (t : outParam TypeId) {α : outParam Type} (E : outParam (Elem α)) (xs : outParam (List α)) : Prop where
  len : xs.length = n
  ok : ∀ x ∈ xs, E.ok σ x
  le : n ≤ c
  max : c ≤ maxLen
  full : (A = none ∧ c = 0) ∨ ∃ b zs, A = some ⟨b, 0, none⟩ ∧ σ.w.heap[b]? = some (.cells (E.flat zs).toArray t (0, 0)) ∧ zs.length = c ∧ zs.take n = xs ∧ ∀ z ∈ zs, E.ok σ z
  m : ∀ a, A = some a → σ.M a.block
/-- what can be read now -/
class Rd (σ : St) (A : Option Addr) (n c : outParam Nat) {α : outParam Type} (E : outParam (Elem α)) (xs : outParam (List α)) : Prop where
  len : xs.length = n
  le : n ≤ c
  max : n ≤ 9223372036854775807
  ok : ∀ x ∈ xs, E.ok σ x
  rd : n = 0 ∨ ∃ b o, A = some ⟨b, o, none⟩ ∧ ∀ j v, (E.flat xs)[j]? = some v → σ.w.cell? ⟨b, o + j, none⟩ = some v

section
variable {σ σ' : St} {A : Option Addr} {n c : Nat} {t : TypeId} {α : Type} {E : Elem α} {xs : List α}
instance Rd.ofSL [h : SL σ A n c E xs] : Rd σ A n c E xs := ⟨h.len, h.le, h.max, h.ok, h.rd.imp id fun ⟨b, o, ha, _, _, hc⟩ => ⟨b, o, ha, hc⟩⟩
instance Rd.ofRow [h : Row σ A n c t E xs] : Rd σ A n c E xs := by
  have hm := h.max
  have hle := h.le
  simp only [maxLen] at hm
  refine ⟨h.len, hle, by omega, h.ok, ?_⟩
  rcases h.full with ⟨_, hc⟩ | ⟨b, zs, e, hh, hz, hx, _⟩
  · exact .inl (by omega)
  · refine .inr ⟨b, 0, e, fun j v hj => ?_⟩
    rw [cell_own hh, Nat.zero_add]
    rw [← hx, ← E.flat_take, List.getElem?_take] at hj
    split at hj
    · simpa using hj
    · cases hj
theorem SL.nx {X : Xs} (nx : NxP σ σ' X) (h : SL σ A n c E xs) : SL σ' A n c E xs :=
  ⟨h.len, h.le, h.max, fun x hx => E.nx _ _ _ _ nx (h.ok x hx), h.rd.imp id fun ⟨b, o, ha, hm, hb, hc⟩ => ⟨b, o, ha, fun h' => hm (nx.mm b hb h'), Nat.lt_of_lt_of_le hb nx.size, fun j v hj => (World.cell?_of_block (w := σ.w) (nx.imm b hb hm)).trans (hc j v hj)⟩⟩
instance (priority := low) SL.lift {X : Xs} [nx : Nx σ σ' X] [h : SL σ A n c E xs] : SL σ' A n c E xs := h.nx nx.p
instance (priority := low) SL.wk [k : Wk σ σ'] [h : SL σ A n c E xs] : SL σ' A n c E xs :=
  ⟨h.len, h.le, h.max, fun x hx => E.wk _ _ _ k.w k.m (h.ok x hx), h.rd.imp id fun ⟨b, o, ha, hm, hb, hc⟩ => ⟨b, o, ha, fun h' => hm (k.m b h'), by rw [k.w]; exact hb, by rw [k.w]; exact hc⟩⟩
theorem SL.nil_ {α : Type} {E : Elem α} : SL σ .none 0 0 E [] := ⟨rfl, Nat.le_refl _, by omega, by simp, .inl rfl⟩
theorem Row.nil_ {t : TypeId} {α : Type} {E : Elem α} : Row σ .none 0 0 t E [] := ⟨rfl, by simp, Nat.le_refl _, Nat.zero_le _, .inl ⟨rfl, rfl⟩, nofun⟩
/-- the same two, of elements that are told: a nil slice is one, too -/
class SLq (σ : St) (A : Option Addr) (n c : outParam Nat) {α : Type} (E : Elem α) (xs : outParam (List α)) : Prop where
  sl : SL σ A n c E xs
class RowQ (σ : St) (A : Option Addr) (n c : outParam Nat) (t : TypeId) {α : Type} (E : Elem α) (xs : outParam (List α)) : Prop where
  row : Row σ A n c t E xs
instance SLq.of [h : SL σ A n c E xs] : SLq σ A n c E xs := ⟨h⟩
instance (priority := high) SLq.nil {α : Type} {E : Elem α} : SLq σ .none 0 0 E [] := ⟨SL.nil_⟩
instance RowQ.of [h : Row σ A n c t E xs] : RowQ σ A n c t E xs := ⟨h⟩
instance (priority := high) RowQ.nil {t : TypeId} {α : Type} {E : Elem α} : RowQ σ .none 0 0 t E [] := ⟨Row.nil_⟩
theorem SL.wk_ (hw : σ'.w = σ.w) (hm : ∀ b, σ'.M b → σ.M b) (h : SL σ A n c E xs) : SL σ' A n c E xs :=
  ⟨h.len, h.le, h.max, fun x hx => E.wk _ _ _ hw hm (h.ok x hx), h.rd.imp id fun ⟨b, o, ha, hm', hb, hc⟩ => ⟨b, o, ha, fun h' => hm' (hm b h'), by rw [hw]; exact hb, by rw [hw]; exact hc⟩⟩
theorem SL.okAt [Inhabited α] (h : SL σ A n c E xs) {i : Nat} (hi : i < n) : OkE σ E xs[i]! := ⟨h.ok _ (by rw [getElem!_pos xs i (by rw [h.len]; exact hi)]; exact List.getElem_mem _)⟩
theorem Row.lift {X : Xs} (nx : NxP σ σ' X) (h : Row σ A n c t E xs) (hx : ∀ a, A = some a → ¬ X.hits a.block) : Row σ' A n c t E xs := by
  refine ⟨h.len, fun x hx => E.nx _ _ _ _ nx (h.ok x hx), h.le, h.max, ?_, fun a ha => ((nx.own _ (σ.wf _ (h.m a ha)) (hx a ha)).2 (h.m a ha))⟩
  rcases h.full with h1 | ⟨b, zs, ea, hh, hz, ht, hok⟩
  · exact .inl h1
  · exact .inr ⟨b, zs, ea, ((nx.own b (σ.wf _ (h.m _ ea)) (hx _ ea)).1).trans hh, hz, ht, fun z hz => E.nx _ _ _ _ nx (hok z hz)⟩
theorem Row.typed (h : Row σ A n c t E xs) : ∀ a, A = some a → ∃ cs fz, σ.w.heap[a.block]? = some (.cells cs t fz) := by
  intro a ha
  rcases h.full with ⟨e, _⟩ | ⟨b, zs, ea, hh, _⟩
  · rw [ha] at e; cases e
  · rw [ha] at ea; injection ea with ea; subst ea; exact ⟨_, _, hh⟩
/-- what turned is not this row -/
class MisR (σ : St) (X : Xs) (A : Option Addr) (t : TypeId) : Prop where
  h : (∀ a, A = some a → ∃ cs fz, σ.w.heap[a.block]? = some (.cells cs t fz)) → X.typed σ.w → ∀ a, A = some a → ¬ X.hits a.block
/-- a row's block is another one than this variable's -/
class NeA (A : Option Addr) (b : Nat) : Prop where
  ne : ∀ a, A = some a → a.block ≠ b
/-- two rows' blocks -/
class NeAA (A B : Option Addr) : Prop where
  ne : ∀ a b, A = some a → B = some b → a.block ≠ b.block
instance MisR.no : MisR σ .no A t := ⟨fun _ _ _ _ h => h⟩
instance (priority := low) MisR.one_ty {b : Nat} {t' : TypeId} [k : NeN t t'] : MisR σ (.one b t') A t := ⟨fun h ht a ha hh => by
  obtain ⟨cs, fz, e⟩ := h a ha
  obtain ⟨cs', fz', e'⟩ := ht
  rw [show a.block = b from hh] at e
  rw [e] at e'; injection e' with e'; injection e' with _ e'; exact k.ne e'⟩
instance (priority := low) MisR.one_ne {b : Nat} {t' : TypeId} [k : NeA A b] : MisR σ (.one b t') A t := ⟨fun h ht a ha hh => k.ne a ha hh⟩
instance (priority := low) MisR.row_ty {B : Option Addr} {t' : TypeId} [k : NeN t t'] : MisR σ (.row B t') A t := ⟨fun h ht a ha hh => by
  obtain ⟨cs, fz, e⟩ := h a ha
  obtain ⟨b, hb, hbb⟩ := hh
  obtain ⟨cs', fz', e'⟩ := ht b hb
  rw [hbb] at e'
  rw [e] at e'; injection e' with e'; injection e' with _ e'; exact k.ne e'⟩
instance (priority := low) MisR.row_ne {B : Option Addr} {t' : TypeId} [k : NeAA A B] : MisR σ (.row B t') A t := ⟨fun h ht a ha hh => by
  obtain ⟨b, hb, hbb⟩ := hh
  exact k.ne a b ha hb hbb.symm⟩
instance (priority := low) MisR.map {r : Nat} : MisR σ (.map r) A t := ⟨fun h ht a ha hh => by
  obtain ⟨cs, fz, e⟩ := h a ha
  obtain ⟨es, ck, e'⟩ := ht
  rw [show a.block = r from hh] at e
  rw [e] at e'; injection e' with e'; cases e'⟩
instance (priority := low) MisR.un {X Y : Xs} [k : MisR σ X A t] [l : MisR σ Y A t] : MisR σ (.un X Y) A t := ⟨fun h ht a ha hh => hh.elim (k.h h ht.1 a ha) (l.h h ht.2 a ha)⟩
instance (priority := low) Row.lift_ {X : Xs} [nx : Nx σ σ' X] [h : Row σ A n c t E xs] [k : MisR σ X A t] : Row σ' A n c t E xs := h.lift nx.p (k.h h.typed nx.p.ty)
/-- where a row went -/
class RowNew (σ : outParam St) (A : outParam (Option Addr)) (A' : Option Addr) : Prop where
  h : ∀ a', A' = some a' → (∃ a, A = some a ∧ a.block = a'.block) ∨ σ.w.heap.size ≤ a'.block
instance NeA.none {b : Nat} : NeA .none b := ⟨nofun⟩
instance (priority := low) NeA.new {A A' : Option Addr} {b : Nat} [k : RowNew σ A A'] [h : NeA A b] [i : InH σ b] : NeA A' b := ⟨fun a' ha' => by
  rcases k.h a' ha' with ⟨a, ha, e⟩ | hg
  · rw [← e]; exact h.ne a ha
  · have := i.lt; omega⟩
instance (priority := low) NeA.var {b : Nat} [k : NewAt σ b] [r : Row σ A n c t E xs] : NeA A b := ⟨fun a ha => by
  have := σ.wf _ (r.m a ha)
  have := k.ge
  omega⟩
instance (priority := low) Mis.row_ne {B : Option Addr} {b : Nat} {t1 t' : TypeId} [k : NeA B b] : Mis σ (.row B t') b t1 := ⟨fun cs fz h ht e => by
  obtain ⟨a, ha, e⟩ := e
  exact k.ne a ha e⟩
/-- a variable that is not older than a row -/
instance (priority := low) NeA.own {A' : Option Addr} {b : Nat} [k : RowNew σ Option.none A'] [i : InH σ b] : NeA A' b := ⟨fun a' ha' => by
  rcases k.h a' ha' with ⟨a, ha, e⟩ | hg
  · cases ha
  · have := i.lt; omega⟩
instance NeAA.none {B : Option Addr} : NeAA .none B := ⟨nofun⟩
instance NeAA.none' {B : Option Addr} : NeAA B .none := ⟨nofun⟩
instance (priority := low) NeAA.new {A A' B : Option Addr} [k : RowNew σ A A'] [h : NeAA A B] [r : Row σ B n c t E xs] : NeAA A' B := ⟨fun a' b ha' hb => by
  rcases k.h a' ha' with ⟨a, ha, e⟩ | hg
  · rw [← e]; exact h.ne a b ha hb
  · have := σ.wf _ (r.m b hb); omega⟩
instance (priority := low) NeAA.new' {A A' B : Option Addr} [k : RowNew σ A A'] [h : NeAA B A] [r : Row σ B n c t E xs] : NeAA B A' := ⟨fun b a' hb ha' => by
  rcases k.h a' ha' with ⟨a, ha, e⟩ | hg
  · rw [← e]; exact h.ne b a hb ha
  · have := σ.wf _ (r.m b hb); omega⟩
instance FreshR.none {σ0 : St} : FreshR σ0 none := ⟨nofun⟩
instance (priority := low) FreshR.new {σ0 σ : St} {A A' : Option Addr} [k : RowNew σ A A'] [h : FreshR σ0 A] [s : Sub σ0 σ] : FreshR σ0 A' :=
  ⟨fun a' ha' => by
    rcases k.h a' ha' with ⟨a, ha, e⟩ | hg
    · rw [← e]; exact h.ge a ha
    · exact Nat.le_trans s.size hg⟩
/-- a row of the call's own, at its end -/
instance SL.out {σ0 : St} [k : Bk σ0 σ σ'] [h : Row σ A n c t E xs] [f : FreshR σ0 A] : SL σ' A n c E xs := by
  have hr : Rd σ A n c E xs := inferInstance
  refine ⟨h.len, hr.le, hr.max, fun x hx => E.wk _ _ _ k.w (fun b hb => k.s.m b ((k.m b).1 hb)) (h.ok x hx), hr.rd.imp id ?_⟩
  rintro ⟨b, o, ha, hc⟩
  refine ⟨b, o, ha, fun hm => ?_, by rw [k.w]; exact σ.wf b (h.m _ ha), by rw [k.w]; exact hc⟩
  have h1 := f.ge _ ha
  have h2 := σ0.wf b ((k.m b).1 hm)
  simp at h1
  omega
/-- what is written no more -/
theorem Row.freeze (h : Row σ A n c t E xs) : ∃ σ' : St, σ'.w = σ.w ∧ NxP σ σ' (.row A t) ∧ SL σ' A n c E xs := by
  have hr : Rd σ A n c E xs := inferInstance
  refine ⟨⟨σ.w, fun b => σ.M b ∧ ∀ a, A = some a → b ≠ a.block, fun b hb => σ.wf b hb.1⟩, rfl, ⟨rfl, rfl, rfl, Nat.le_refl _, fun _ _ _ => rfl, fun _ _ h => h.1, fun b hb hx => ⟨rfl, fun hm => ⟨hm, fun a ha e => hx ⟨a, ha, e.symm⟩⟩⟩, h.typed⟩, h.len, hr.le, hr.max, fun x hx => E.wk σ _ _ rfl (fun _ h => h.1) (h.ok x hx), hr.rd.imp id ?_⟩
  · rintro ⟨b, o, ha, hc⟩
    exact ⟨b, o, ha, fun hm => hm.2 _ ha rfl, σ.wf b (h.m _ ha), hc⟩
end

/-! ### Indices -/
class IdxLt (i n : Nat) : Prop where
  lt : i < n
class LeN (i n : Nat) : Prop where
  le : i ≤ n
instance LeN.refl {n : Nat} : LeN n n := ⟨Nat.le_refl n⟩
instance LeN.zero {n : Nat} : LeN 0 n := ⟨Nat.zero_le n⟩
instance (priority := low) LeN.ofLt {i n : Nat} [h : IdxLt i n] : LeN i n := ⟨Nat.le_of_lt h.lt⟩
class ToNat (j : Int) (i : outParam Nat) : Prop where
  eq : j = (i : Int)
instance ToNat.cast {i : Nat} : ToNat (i : Int) i := ⟨rfl⟩
instance (priority := low) ToNat.lit {i : Nat} : ToNat (no_index (OfNat.ofNat i) : Int) i := ⟨rfl⟩
instance ToNat.zero : ToNat (0 : Int) 0 := ⟨rfl⟩
instance (priority := low) ToNat.add {j k : Int} {i l : Nat} [h : ToNat j i] [g : ToNat k l] : ToNat (j + k) (i + l) := ⟨by rw [h.eq, g.eq]; omega⟩
instance (priority := low) ToNat.sub {j k : Int} {i l : Nat} [h : ToNat j i] [g : ToNat k l] [q : LeN l i] : ToNat (j - k) (i - l) := ⟨by have := q.le; rw [h.eq, g.eq]; omega⟩
instance ToNat.one : ToNat (1 : Int) 1 := ⟨rfl⟩

def slotV {α : Type} (E : Elem α) (A : Option Addr) (i : Nat) : Value := .pointer (A.map (·.add (i * E.sz)))
def cutA {α : Type} (E : Elem α) (A : Option Addr) (l u c : Nat) : Option Addr := if c = l then A else A.map (·.add (l * E.sz))

section
variable {P : Program} {f : Fr} {σ : St} {ty : TypeId} {A B : Option Addr} {n m c d : Nat} {α : Type} {E : Elem α} {xs ys : List α} {t e : TypeId} {bytes : Nat}

instance StepV.indexAddr {x ix : Operand} {k : IntKind} {j : Int} {i : Nat} [h : Ev f x (.slice A n c)] [g : Ev f ix (.int k j)] [r : Rd σ A n c E xs] [u : U P t (.slice e)] [eo : ElemOf P e E bytes] [q : ToNat j i] [l : IdxLt i n] :
    StepV P (.indexAddr t x ix) ty f σ (slotV E A i) := ⟨by
  have hl := l.lt
  rcases r.rd with h0 | ⟨b, o, rfl, _⟩
  · omega
  · have hj : j = (i : Int) := q.eq
    simp [execOp, h.eq, g.eq, Instr.indexAt, asIntOf, run_underlying u.h, eo.ti.run_sizeOf, slotV, hj, hl]⟩

theorem Rd.cells {i : Nat} [Inhabited α] (r : Rd σ A n c E xs) (hi : i < n) : ∃ b o, A = some ⟨b, o, none⟩ ∧ ∀ j, j < E.sz → σ.w.cell? ⟨b, o + i * E.sz + j, none⟩ = (E.val xs[i]!).cells[j]? := by
  rcases r.rd with h0 | ⟨b, o, ha, hc⟩
  · omega
  · refine ⟨b, o, ha, fun j hj => ?_⟩
    have hil : i < xs.length := by rw [r.len]; exact hi
    have h1 := E.flat_get xs i j hil hj
    have hs : j < (E.val xs[i]).cells.size := by rw [E.size]; exact hj
    rw [Array.getElem?_eq_getElem hs] at h1
    rw [getElem!_pos xs i hil, Nat.add_assoc, hc _ _ h1, Array.getElem?_eq_getElem hs]

instance StepV.load_slot [Inhabited α] {x : Operand} {i : Nat} {val : α → Value} [h : Ev f x (slotV E A i)] [r : Rd σ A n c E xs] [l : IdxLt i n] [eo : ElemOf P t E bytes] [fv : FlatV E val] :
    StepV P (.load t x) ty f σ (val xs[i]!) := ⟨by
  obtain ⟨b, o, rfl, hc⟩ := r.cells l.lt
  have hl : LoadV (E.val xs[i]!).cells 0 E.sz E.agg (E.val xs[i]!) := ⟨by rw [E.size]; omega, fun ha => by have := E.shapeA (xs[i]!) ha; rw [Nat.zero_add, ← E.size (xs[i]!), Array.extract_size]; exact this,
    fun ha => by rw [E.shape1 (xs[i]!) ha]; exact ⟨rfl, by rw [← E.size (xs[i]!), E.shape1 (xs[i]!) ha]; rfl⟩⟩
  have hr := run_loadVar_cells' (P := P) (w := σ.w) eo.ti (b := b) (off := o + i * E.sz) (cs := (E.val xs[i]!).cells) (v := E.val xs[i]!) hc hl
  simp only [execOp, h.eq, slotV, Option.map_some, add_at, Instr.loadAt, Instr.sureAddr, Sem.run_bind, Sem.run_pure, Result.andThen_ok, hr, fv.eq]⟩

instance StepV.slice_lo_hi {x lo hi : Operand} {k k' : IntKind} {jl jh : Int} {l u : Nat} [h : Ev f x (.slice A n c)] [g : Ev f lo (.int k jl)] [g' : Ev f hi (.int k' jh)] [r : Rd σ A n c E xs] [uu : U P t (.slice e)] [eo : ElemOf P e E bytes] [q : ToNat jl l] [q' : ToNat jh u] [a1 : LeN l u] [a2 : LeN u n] :
    StepV P (.slice t x (some lo) (some hi) none) ty f σ (.slice (cutA E A l u c) (u - l) (c - l)) := ⟨by
  have h1 := a1.le
  have h2 := Nat.le_trans a2.le r.le
  have e1 := q.eq
  have e2 := q'.eq
  subst e1; subst e2
  simp [execOp, h.eq, g.eq, g'.eq, Instr.sliceAt, Instr.slice, Instr.sliceBounds, Instr.sliceBound, asIntOf, run_underlying uu.h, eo.ti.run_sizeOf, cutA, h1, h2]⟩
instance StepV.slice_lo {x lo : Operand} {k : IntKind} {jl : Int} {l : Nat} [h : Ev f x (.slice A n c)] [g : Ev f lo (.int k jl)] [r : Rd σ A n c E xs] [uu : U P t (.slice e)] [eo : ElemOf P e E bytes] [q : ToNat jl l] [a1 : LeN l n] :
    StepV P (.slice t x (some lo) none none) ty f σ (.slice (cutA E A l n c) (n - l) (c - l)) := ⟨by
  have h1 := a1.le
  have h2 := r.le
  have e1 := q.eq
  subst e1
  simp [execOp, h.eq, g.eq, Instr.sliceAt, Instr.slice, Instr.sliceBounds, Instr.sliceBound, asIntOf, run_underlying uu.h, eo.ti.run_sizeOf, cutA, h1, h2]⟩
instance StepV.slice_hi {x hi : Operand} {k' : IntKind} {jh : Int} {u : Nat} [h : Ev f x (.slice A n c)] [g' : Ev f hi (.int k' jh)] [r : Rd σ A n c E xs] [uu : U P t (.slice e)] [eo : ElemOf P e E bytes] [q' : ToNat jh u] [a2 : LeN u n] :
    StepV P (.slice t x none (some hi) none) ty f σ (.slice (cutA E A 0 u c) (u - 0) (c - 0)) := ⟨by
  have h2 := Nat.le_trans a2.le r.le
  have e2 := q'.eq
  subst e2
  simp [execOp, h.eq, g'.eq, Instr.sliceAt, Instr.slice, Instr.sliceBounds, Instr.sliceBound, asIntOf, run_underlying uu.h, eo.ti.run_sizeOf, cutA, h2]⟩
end
end Go.Proofs.Ythdhnkgnbdociaa
