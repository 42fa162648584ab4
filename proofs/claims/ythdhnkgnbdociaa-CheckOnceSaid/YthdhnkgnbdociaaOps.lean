/- The engine, part 2: what is known of memory, and one step for each kind of operation. No condition. -/
import Derived.Laws.CopyRow
import Derived.Laws.Cells
import Derived.Laws.Externs
import Derived.Test.YthdhnkgnbdociaaEng
import Derived.Test.YthdhnkgnbdociaaVal
set_option linter.all false
namespace Go.Proofs.Ythdhnkgnbdociaa
open Go Go.RowKit

/-! ### Types -/
class U (P : Program) (t : TypeId) (d : outParam TypeDesc) : Prop where
  h : P.underlying t = some d
def aggD : TypeDesc → Bool
  | .struct _ | .array _ _ => true
  | _ => false
/-- is it a struct or an array; how many cells; how many bytes -/
class TI (P : Program) (t : TypeId) (agg : outParam Bool) (size : outParam Nat) (bytes : outParam Nat) : Prop where
  h : ∃ d i, P.underlying t = some d ∧ aggD d = agg ∧ P.info? t = some i ∧ i.size = size ∧ i.bytes = bytes
class TZ (P : Program) (t : TypeId) (cs : outParam (Array Value)) : Prop where
  h : ∃ i z, P.info? t = some i ∧ i.zero = some z ∧ z.cells = cs

section
variable {P : Program} {t : TypeId} {agg : Bool} {size bytes : Nat}
theorem TI.run_isAgg (h : TI P t agg size bytes) (w : World) : (isAgg t).run P w = .ok agg w := by
  obtain ⟨d, i, hd, ha, hi, hs, hb⟩ := h.h
  unfold isAgg
  rw [Sem.run_bind, run_underlying hd]
  cases d <;> simp [aggD] at ha ⊢ <;> exact ha
theorem TI.run_sizeOf (h : TI P t agg size bytes) (w : World) : (sizeOf t).run P w = .ok size w := by
  obtain ⟨d, i, hd, ha, hi, hs, hb⟩ := h.h
  simp [sizeOf, typeInfo, hi, hs]
end

/-! ### The cells of a value -/
class Cells (v : Value) (cs : outParam (Array Value)) : Prop where
  eq : v.cells = cs
instance Cells.agg {cs : Array Value} : Cells (.agg cs) cs := ⟨rfl⟩
instance Cells.int {k : IntKind} {n : Int} : Cells (.int k n) #[.int k n] := ⟨rfl⟩
instance Cells.bool {b : Bool} : Cells (.bool b) #[.bool b] := ⟨rfl⟩
instance Cells.string {s : ByteArray} : Cells (.string s) #[.string s] := ⟨rfl⟩
instance Cells.pointer {a : Option Addr} : Cells (.pointer a) #[.pointer a] := ⟨rfl⟩
instance Cells.slice {a : Option Addr} {n c : Nat} : Cells (.slice a n c) #[.slice a n c] := ⟨rfl⟩
instance Cells.map {r : Option Nat} : Cells (.map r) #[.map r] := ⟨rfl⟩
instance Cells.func {g : Fn} {a b : Array Value} : Cells (.func g a b) #[.func g a b] := ⟨rfl⟩
instance Cells.nilFunc : Cells .nilFunc #[.nilFunc] := ⟨rfl⟩
instance Cells.iface {t : TypeId} {v : Value} : Cells (.iface t v) #[.iface t v] := ⟨rfl⟩
instance Cells.nilIface : Cells .nilIface #[.nilIface] := ⟨rfl⟩

/-- how many cells; all of them the cells of one-cell values -/
class CSz (cs : Array Value) (n : outParam Nat) : Prop where
  size : cs.size = n
  one : ∀ v ∈ cs.toList, v.oneCell' = true
theorem u8v_one (b : UInt8) : (u8v b).oneCell' = true := rfl
class CSzE (cs : Array Value) (n : Nat) : Prop where
  z : CSz cs n
instance CSzE.of {cs : Array Value} {m n : Nat} [h : CSz cs m] [e : EqB (Nat.beq m n) true] : CSzE cs n := ⟨Nat.eq_of_beq_eq_true e.eq ▸ h⟩
instance CSz.key {k : Key} : CSz (kc k) 32 := ⟨kc_size k, fun v hv => by
  simp only [kc, Array.toList_map, List.mem_map] at hv
  obtain ⟨b, _, rfl⟩ := hv; rfl⟩
class One (v : Value) : Prop where
  one : v.oneCell' = true
instance One.int {k : IntKind} {n : Int} : One (.int k n) := ⟨rfl⟩
instance One.bool {b : Bool} : One (.bool b) := ⟨rfl⟩
instance One.string {s : ByteArray} : One (.string s) := ⟨rfl⟩
instance One.pointer {a : Option Addr} : One (.pointer a) := ⟨rfl⟩
instance One.slice {a : Option Addr} {n c : Nat} : One (.slice a n c) := ⟨rfl⟩
instance One.map {r : Option Nat} : One (.map r) := ⟨rfl⟩
instance One.func {g : Fn} {a b : Array Value} : One (.func g a b) := ⟨rfl⟩
instance One.nilFunc : One .nilFunc := ⟨rfl⟩
instance One.iface {t : TypeId} {v : Value} : One (.iface t v) := ⟨rfl⟩
instance One.nilIface : One .nilIface := ⟨rfl⟩
instance CSz.one1 {v : Value} [h : One v] : CSz #[v] 1 := ⟨rfl, by simpa using h.one⟩

/-- the value of type (agg, sz) that lies at 'off' among these cells -/
class LoadV (cs : Array Value) (off sz : Nat) (agg : Bool) (v : outParam Value) : Prop where
  fit : off + sz ≤ cs.size
  agg_ : agg = true → v = .agg (cs.extract off (off + sz))
  one : agg = false → cs[off]? = some v ∧ sz = 1
instance LoadV.whole {cs : Array Value} {n : Nat} [h : CSz cs n] : LoadV cs 0 n true (.agg cs) :=
  ⟨by simp [h.size], fun _ => by simp [← h.size], fun h => by cases h⟩
instance LoadV.single {v : Value} : LoadV #[v] 0 1 false v := ⟨by simp, fun h => (by cases h), fun _ => ⟨rfl, rfl⟩⟩

/-- the cells, with those of a value put at 'off' -/
def putCells (cs : Array Value) (off : Nat) (vs : Array Value) : Array Value := (cs.toList.take off ++ vs.toList ++ cs.toList.drop (off + vs.size)).toArray
class PutV (cs : Array Value) (off : Nat) (vs : Array Value) (cs' : outParam (Array Value)) : Prop where
  fit : off + vs.size ≤ cs.size
  eq : putCells cs off vs = cs'
theorem putCells_whole {cs vs : Array Value} (h : cs.size = vs.size) : putCells cs 0 vs = vs := by
  have : cs.toList.drop vs.size = [] := List.drop_eq_nil_of_le (by simp [h])
  simp [putCells, this]
instance PutV.whole {cs vs : Array Value} {n : Nat} [h : CSz vs n] [g : CSz cs n] : PutV cs 0 vs vs := ⟨by simp [h.size, g.size], putCells_whole (by rw [h.size, g.size])⟩

/-! ### Blocks of the call's own -/
class Own (σ : St) (b : Nat) (t : outParam TypeId) (cs : outParam (Array Value)) : Prop where
  m : σ.M b
  h : σ.w.heap[b]? = some (.cells cs t (0, 0))
class NewAt (σ : outParam St) (b : Nat) : Prop where
  ge : σ.w.heap.size ≤ b
class InH (σ : St) (b : Nat) : Prop where
  lt : b < σ.w.heap.size
class NeB (b b' : Nat) : Prop where
  ne : b ≠ b'

section
variable {σ σ' : St} {b b' : Nat} {t t' : TypeId} {cs : Array Value}
theorem Own.lt (h : Own σ b t cs) : b < σ.w.heap.size := σ.wf b h.m
instance InH.own [h : Own σ b t cs] : InH σ b := ⟨h.lt⟩
instance NeB.new [h : NewAt σ b'] [g : InH σ b] : NeB b b' := ⟨by have := h.ge; have := g.lt; omega⟩
instance NeB.new' [h : NewAt σ b] [g : InH σ b'] : NeB b b' := ⟨by have := h.ge; have := g.lt; omega⟩
/-- what turned is not this block -/
class Mis (σ : St) (X : Xs) (b : Nat) (t : TypeId) : Prop where
  h : ∀ cs fz, σ.w.heap[b]? = some (.cells cs t fz) → X.typed σ.w → ¬ X.hits b
instance Mis.no : Mis σ .no b t := ⟨fun _ _ _ _ h => h⟩
instance (priority := low) Mis.one_ty [k : NeN t t'] : Mis σ (.one b' t') b t := ⟨fun cs fz h ht e => by
  subst e
  obtain ⟨cs', fz', e⟩ := ht
  rw [h] at e; injection e with e; injection e with _ e; exact k.ne e⟩
instance (priority := low) Mis.one_ne [k : NeB b b'] : Mis σ (.one b' t') b t := ⟨fun cs fz h ht e => k.ne e⟩
instance (priority := low) Mis.row_ty {A : Option Addr} [k : NeN t t'] : Mis σ (.row A t') b t := ⟨fun cs fz h ht e => by
  obtain ⟨a, rfl, rfl⟩ := e
  obtain ⟨cs', fz', e⟩ := ht a rfl
  rw [h] at e; injection e with e; injection e with _ e; exact k.ne e⟩
instance (priority := low) Mis.map {r : Nat} : Mis σ (.map r) b t := ⟨fun cs fz h ht e => by
  subst e
  obtain ⟨es, ck, e⟩ := ht
  rw [h] at e; injection e with e; cases e⟩
instance (priority := low) Mis.un {X Y : Xs} [k : Mis σ X b t] [l : Mis σ Y b t] : Mis σ (.un X Y) b t := ⟨fun cs fz h ht e => e.elim (k.h cs fz h ht.1) (l.h cs fz h ht.2)⟩
theorem Own.lift {X : Xs} (n : NxP σ σ' X) (h : Own σ b t cs) (hx : ¬ X.hits b) : Own σ' b t cs :=
  ⟨(n.own b h.lt hx).2 h.m, (n.own b h.lt hx).1.trans h.h⟩
instance (priority := low) Own.lift_ {X : Xs} [n : Nx σ σ' X] [h : Own σ b t cs] [k : Mis σ X b t] : Own σ' b t cs := h.lift n.p (k.h _ _ h.h n.p.ty)
end

/-! ### How a world changes -/
/-- a new block -/
theorem st_new (σ : St) (o : Obj) (m : Prop) : ∃ σ' : St, σ'.w = σ.w.alloc o ∧ NxP σ σ' .no ∧ (σ'.M σ.w.heap.size ↔ m) ∧ (∀ k, σ'.M k → k ≠ σ.w.heap.size → σ.M k) ∧ σ'.w.heap[σ.w.heap.size]? = some o ∧ σ'.w.heap.size = σ.w.heap.size + 1 := by
  refine ⟨⟨σ.w.alloc o, fun k => σ.M k ∨ (m ∧ k = σ.w.heap.size), ?_⟩, rfl, ⟨rfl, rfl, rfl, by simp, fun b hb _ => Below.heap_alloc _ _ _ hb, ?_, fun b hb _ => ⟨Below.heap_alloc _ _ _ hb, fun h => .inl h⟩, trivial⟩, ⟨fun h => h.elim (fun h => absurd (σ.wf _ h) (Nat.lt_irrefl _)) (·.1), fun h => .inr ⟨h, rfl⟩⟩, ?_, heap_alloc_new _ _, by simp⟩
  · rintro b (h | ⟨_, h⟩)
    · have := σ.wf b h; simp; omega
    · simp [h]
  · rintro b hb (h | ⟨_, h⟩)
    · exact h
    · omega
  · rintro k (h | ⟨_, h⟩) hk
    · exact h
    · exact absurd h hk
/-- a block of the call's own turns -/
theorem st_set {σ : St} {b : Nat} {t : TypeId} {cs : Array Value} (h : Own σ b t cs) (cs' : Array Value) : ∃ σ' : St, σ'.w = σ.w.setRow b cs' ∧ NxP σ σ' (.one b t) ∧ Own σ' b t cs' := by
  have hz : (σ.w.setRow b cs').heap.size = σ.w.heap.size := by simp [World.setRow]
  have hne : ∀ k, k ≠ b → (σ.w.setRow b cs').heap[k]? = σ.w.heap[k]? := fun k hk => by
    simp only [World.setRow, Array.getElem?_modify]; rw [if_neg (Ne.symm hk)]
  refine ⟨⟨σ.w.setRow b cs', σ.M, fun k hk => by rw [hz]; exact σ.wf k hk⟩, rfl, ⟨rfl, rfl, rfl, by rw [hz]; exact Nat.le_refl _, fun k _ hk => hne k (fun e => hk (e ▸ h.m)), fun _ _ h => h, fun k _ hk => ⟨hne k hk, id⟩, ⟨_, _, h.h⟩⟩, h.m, setRow_heap _ _ _ _ _ _ h.h⟩
/-- a draw -/
theorem st_drew (σ : St) (k : Nat) : ∃ σ' : St, σ'.w = { σ.w with drawn := k } ∧ NxP σ σ' .no :=
  ⟨⟨{ σ.w with drawn := k }, σ.M, σ.wf⟩, rfl, ⟨rfl, rfl, rfl, Nat.le_refl _, fun _ _ _ => rfl, fun _ _ h => h, fun _ _ _ => ⟨rfl, id⟩, trivial⟩⟩

theorem cell_own {w : World} {b : Nat} {t : TypeId} {cs : Array Value} {fz : Nat × Nat} (h : w.heap[b]? = some (.cells cs t fz)) (i : Nat) : w.cell? ⟨b, i, none⟩ = cs[i]? := by
  simp [World.cell?, h]
theorem add_at (b o i : Nat) : (⟨b, o, none⟩ : Addr).add i = ⟨b, o + i, none⟩ := by unfold Addr.add; split <;> simp_all

theorem run_loadVar_cells {P : Program} {w : World} {t : TypeId} {agg : Bool} {size bytes : Nat} (ti : TI P t agg size bytes) {b off : Nat} {cs : Array Value} {v : Value}
    (h : ∀ j, j < size → w.cell? ⟨b, off + j, none⟩ = cs[off + j]?) (l : LoadV cs off size agg v) : (loadVar t ⟨b, off, none⟩).run P w = .ok v w := by
  unfold loadVar
  rw [Sem.run_bind, ti.run_isAgg]
  simp only [Result.andThen_ok]
  cases agg with
  | true =>
    simp only [if_true, Sem.run_bind, ti.run_sizeOf, Result.andThen_ok]
    have hl : ((cs.extract off (off + size)).toList).length = size := by have := l.fit; simp; omega
    have hh : ∀ j v, ((cs.extract off (off + size)).toList)[j]? = some v → w.cell? ((⟨b, off, none⟩ : Addr).add j) = some v := by
      intro j v hj
      have hjl : j < size := by
        have := (List.getElem?_eq_some_iff.1 hj).1; omega
      rw [add_at, h j hjl]
      rw [Array.getElem?_toList, Array.getElem?_extract] at hj
      split at hj
      · exact hj
      · cases hj
    have := run_loadCells_list (P := P) w ⟨b, off, none⟩ _ hh
    rw [hl, Array.toArray_toList] at this
    simp only [this, Result.andThen_ok, l.agg_ rfl]
    rfl
  | false =>
    obtain ⟨h1, h2⟩ := l.one rfl
    have := h 0 (by omega)
    simp only [Nat.add_zero] at this
    simp [load, Sem.run, this, h1]

theorem run_loadVar_cells' {P : Program} {w : World} {t : TypeId} {agg : Bool} {size bytes : Nat} (ti : TI P t agg size bytes) {b off : Nat} {cs : Array Value} {v : Value}
    (h : ∀ j, j < size → w.cell? ⟨b, off + j, none⟩ = cs[j]?) (l : LoadV cs 0 size agg v) : (loadVar t ⟨b, off, none⟩).run P w = .ok v w := by
  unfold loadVar
  rw [Sem.run_bind, ti.run_isAgg]
  simp only [Result.andThen_ok]
  cases agg with
  | true =>
    simp only [if_true, Sem.run_bind, ti.run_sizeOf, Result.andThen_ok]
    have hl : ((cs.extract 0 (0 + size)).toList).length = size := by have := l.fit; simp; omega
    have hh : ∀ j v, ((cs.extract 0 (0 + size)).toList)[j]? = some v → w.cell? ((⟨b, off, none⟩ : Addr).add j) = some v := by
      intro j v hj
      have hjl : j < size := by
        have := (List.getElem?_eq_some_iff.1 hj).1; omega
      rw [add_at, h j hjl]
      rw [Array.getElem?_toList, Array.getElem?_extract] at hj
      split at hj
      · simpa using hj
      · cases hj
    have := run_loadCells_list (P := P) w ⟨b, off, none⟩ _ hh
    rw [hl, Array.toArray_toList] at this
    simp only [this, Result.andThen_ok, l.agg_ rfl]
    rfl
  | false =>
    obtain ⟨h1, h2⟩ := l.one rfl
    have := h 0 (by omega)
    simp only [Nat.add_zero] at this
    simp [load, Sem.run, this, h1]

theorem run_storeVar_own {P : Program} {w : World} {t t0 : TypeId} {agg : Bool} {size bytes : Nat} (ti : TI P t agg size bytes) {b off : Nat} {cs vs cs' : Array Value} {v : Value} (hv : Cells v vs) (hz : CSz vs size)
    (h : w.heap[b]? = some (.cells cs t0 (0, 0))) (l : PutV cs off vs cs') : (storeVar t ⟨b, off, none⟩ v).run P w = .ok () (w.setRow b cs') := by
  unfold storeVar
  rw [Sem.run_bind, ti.run_sizeOf]
  simp only [Result.andThen_ok, hv.eq, hz.size, ne_eq, not_true_eq_false, if_false]
  have := run_storeCells_at (P := P) b off t0 vs.toList 0 cs w h (by simpa using l.fit) hz.one
  simp only [Nat.add_zero, Array.length_toList] at this
  have e : (cs.toList.take off ++ vs.toList ++ cs.toList.drop (off + vs.size)).toArray = cs' := l.eq
  rw [e] at this
  simp [this]

/-- what a truth value is, where it is known: laid by hand ahead of the step -/
class BV (x : Bool) (v : outParam Bool) : Prop where
  eq : x = v
instance (priority := low) BV.self {x : Bool} : BV x x := ⟨rfl⟩
instance BV.notT : BV (!true) false := ⟨rfl⟩
instance BV.notF : BV (!false) true := ⟨rfl⟩
instance (priority := 1100) BV.eqSelf {b : Bool} : BV (b == b) true := ⟨by cases b <;> rfl⟩
instance BV.decSelf {α : Type} {a : α} [i : Decidable (a = a)] : BV (decide (a = a)) true := ⟨by simp⟩
instance BV.eqT {b : Bool} : BV (true == b) b := ⟨by cases b <;> rfl⟩
instance BV.eqT' {b : Bool} : BV (b == true) b := ⟨by cases b <;> rfl⟩
instance BV.eqFF : BV (false == false) true := ⟨rfl⟩
instance (priority := low) BV.eqF {b : Bool} : BV (false == b) (!b) := ⟨by cases b <;> rfl⟩
instance BV.eqFT : BV (false == true) false := ⟨rfl⟩
instance BV.orT {a b : Bool} [h : BV a true] : BV (a || b) true := ⟨by simp [h.eq]⟩
instance BV.orF {a b c : Bool} [h : BV a false] [g : BV b c] : BV (a || b) c := ⟨by simp [h.eq, g.eq]⟩
instance BV.andT {a b c : Bool} [h : BV a true] [g : BV b c] : BV (a && b) c := ⟨by simp [h.eq, g.eq]⟩
instance BV.andF {a b : Bool} [h : BV a false] : BV (a && b) false := ⟨by simp [h.eq]⟩
instance (priority := 900) BV.not1 {a : Bool} [h : BV a true] : BV (!a) false := ⟨by simp [h.eq]⟩
instance (priority := 900) BV.not0 {a : Bool} [h : BV a false] : BV (!a) true := ⟨by simp [h.eq]⟩
instance (priority := 900) BV.eqTL {a b c : Bool} [h : BV a true] [g : BV b c] : BV (a == b) c := ⟨by rw [h.eq, g.eq]; cases c <;> rfl⟩
instance (priority := 900) BV.eqFL {a b : Bool} [h : BV a false] [g : BV b true] : BV (a == b) false := ⟨by rw [h.eq, g.eq]; rfl⟩
instance (priority := 900) BV.eqFL' {a b : Bool} [h : BV a false] [g : BV b false] : BV (a == b) true := ⟨by rw [h.eq, g.eq]; rfl⟩
/-! ### The steps -/
section
variable {P : Program} {f : Fr} {σ : St} {ty : TypeId}
/-- an operation that yields v and leaves the world -/
class StepV (P : Program) (op : Op) (ty : TypeId) (f : Fr) (σ : St) (v : outParam Value) : Prop where
  run : (execOp (evo f) ⟨none, op, ty, "", #[], none⟩).run P σ.w = .ok (.value v) σ.w
instance (priority := high) Step.ofV {op : Op} {v : Value} [h : StepV P op ty f σ v] : Step P op ty f σ (fun K _ => K v σ) :=
  ⟨fun K E hK => by unfold OpW; rw [h.run]; exact ⟨σ, rfl, hK⟩⟩

instance Step.move {x : Operand} {v : Value} [h : Ev f x v] : StepV P (.move x) ty f σ v := ⟨(by simp [execOp, h.eq])⟩
instance Step.assign {x : Operand} {v : Value} [h : Ev f x v] : StepV P (.assign x) ty f σ v := ⟨(by simp [execOp, h.eq])⟩
instance (priority := low) Step.pick {c x y : Operand} {b : Bool} {v u : Value} [h : Ev f c (.bool b)] [h1 : Ev f x v] [h2 : Ev f y u] : StepV P (.pick c x y) ty f σ (if b then v else u) :=
  ⟨(by simp [execOp, h.eq, h1.eq, h2.eq, asBool])⟩
instance Step.pickT {c x y : Operand} {v : Value} {b : Bool} [h : Ev f c (.bool b)] [q : BV b true] [h1 : Ev f x v] : StepV P (.pick c x y) ty f σ v :=
  ⟨(by have hq := q.eq; subst hq; simp [execOp, h.eq, h1.eq, asBool])⟩
instance Step.pickF {c x y : Operand} {v : Value} {b : Bool} [h : Ev f c (.bool b)] [q : BV b false] [h1 : Ev f y v] : StepV P (.pick c x y) ty f σ v :=
  ⟨(by have hq := q.eq; subst hq; simp [execOp, h.eq, h1.eq, asBool])⟩
instance (priority := low) Step.not {x : Operand} {t : TypeId} {b : Bool} [h : Ev f x (.bool b)] : StepV P (.unOp .not t x) ty f σ (.bool (!b)) := ⟨(by simp [execOp, h.eq, Op.unary])⟩
instance Step.notT {x : Operand} {t : TypeId} [h : Ev f x (.bool true)] : StepV P (.unOp .not t x) ty f σ (.bool false) := ⟨(by simp [execOp, h.eq, Op.unary])⟩
instance Step.notF {x : Operand} {t : TypeId} [h : Ev f x (.bool false)] : StepV P (.unOp .not t x) ty f σ (.bool true) := ⟨(by simp [execOp, h.eq, Op.unary])⟩

/-- 'this number needs no wrapping': laid by hand ahead of the step -/
class Fits (k : IntKind) (n : Int) : Prop where
  eq : k.wrap n = n
theorem Fits.i64 {n : Int} (h : -9223372036854775808 ≤ n) (h' : n ≤ 9223372036854775807) : Fits .i64 n := ⟨by rw [IntKind.wrap_i64]; omega⟩
instance (priority := low) Step.add {k : IntKind} {a b : Int} {t u : TypeId} {x y : Operand} [h : Ev f x (.int k a)] [g : Ev f y (.int k b)] : StepV P (.binOp .add t x y u) ty f σ (.int k (k.wrap (a + b))) :=
  ⟨(by simp [execOp, h.eq, g.eq, binOp, eqGuard, Op.intArith])⟩
instance Step.add_fit {k : IntKind} {a b : Int} {t u : TypeId} {x y : Operand} [h : Ev f x (.int k a)] [g : Ev f y (.int k b)] [e : Fits k (a + b)] : StepV P (.binOp .add t x y u) ty f σ (.int k (a + b)) :=
  ⟨(by simp [execOp, h.eq, g.eq, binOp, eqGuard, Op.intArith, e.eq])⟩
instance (priority := low) Step.sub {k : IntKind} {a b : Int} {t u : TypeId} {x y : Operand} [h : Ev f x (.int k a)] [g : Ev f y (.int k b)] : StepV P (.binOp .sub t x y u) ty f σ (.int k (k.wrap (a - b))) :=
  ⟨(by simp [execOp, h.eq, g.eq, binOp, eqGuard, Op.intArith])⟩
instance Step.sub_fit {k : IntKind} {a b : Int} {t u : TypeId} {x y : Operand} [h : Ev f x (.int k a)] [g : Ev f y (.int k b)] [e : Fits k (a - b)] : StepV P (.binOp .sub t x y u) ty f σ (.int k (a - b)) :=
  ⟨(by simp [execOp, h.eq, g.eq, binOp, eqGuard, Op.intArith, e.eq])⟩
instance (priority := low) Step.mul {k : IntKind} {a b : Int} {t u : TypeId} {x y : Operand} [h : Ev f x (.int k a)] [g : Ev f y (.int k b)] : StepV P (.binOp .mul t x y u) ty f σ (.int k (k.wrap (a * b))) :=
  ⟨(by simp [execOp, h.eq, g.eq, binOp, eqGuard, Op.intArith])⟩
instance Step.mul_fit {k : IntKind} {a b : Int} {t u : TypeId} {x y : Operand} [h : Ev f x (.int k a)] [g : Ev f y (.int k b)] [e : Fits k (a * b)] : StepV P (.binOp .mul t x y u) ty f σ (.int k (a * b)) :=
  ⟨(by simp [execOp, h.eq, g.eq, binOp, eqGuard, Op.intArith, e.eq])⟩
instance Step.lss {k : IntKind} {a b : Int} {bb : Bool} {t u : TypeId} {x y : Operand} [h : Ev f x (.int k a)] [g : Ev f y (.int k b)] [q : BV (decide (a < b)) bb] : StepV P (.binOp .lss t x y u) ty f σ (.bool bb) :=
  ⟨(by have hq := q.eq; subst hq; simp [execOp, h.eq, g.eq, binOp, eqGuard, Op.intCmp])⟩
instance Step.leq {k : IntKind} {a b : Int} {bb : Bool} {t u : TypeId} {x y : Operand} [h : Ev f x (.int k a)] [g : Ev f y (.int k b)] [q : BV (decide (a ≤ b)) bb] : StepV P (.binOp .leq t x y u) ty f σ (.bool bb) :=
  ⟨(by have hq := q.eq; subst hq; simp [execOp, h.eq, g.eq, binOp, eqGuard, Op.intCmp])⟩
instance Step.gtr {k : IntKind} {a b : Int} {bb : Bool} {t u : TypeId} {x y : Operand} [h : Ev f x (.int k a)] [g : Ev f y (.int k b)] [q : BV (decide (b < a)) bb] : StepV P (.binOp .gtr t x y u) ty f σ (.bool bb) :=
  ⟨(by have hq := q.eq; subst hq; simp [execOp, h.eq, g.eq, binOp, eqGuard, Op.intCmp])⟩
instance Step.geq {k : IntKind} {a b : Int} {bb : Bool} {t u : TypeId} {x y : Operand} [h : Ev f x (.int k a)] [g : Ev f y (.int k b)] [q : BV (decide (b ≤ a)) bb] : StepV P (.binOp .geq t x y u) ty f σ (.bool bb) :=
  ⟨(by have hq := q.eq; subst hq; simp [execOp, h.eq, g.eq, binOp, eqGuard, Op.intCmp])⟩

/-- the outcome of '==' at a type -/
class Eqv (P : Program) (t : TypeId) (x y : Value) (b : outParam Bool) : Prop where
  eq : ∀ (X Y : Operand) w, (do eqGuard .eql t X Y x y; binOp .eql t x y : Sem Value).run P w = .ok (.bool b) w
  ne : ∀ (X Y : Operand) w, (do eqGuard .neq t X Y x y; binOp .neq t x y : Sem Value).run P w = .ok (.bool (!b)) w
instance Eqv.int {t : TypeId} {k : IntKind} {a b : Int} {bb : Bool} [q : BV (decide (a = b)) bb] : Eqv P t (.int k a) (.int k b) bb :=
  ⟨fun X Y w => by have hq := q.eq; subst hq; simp [binOp, eqGuard, Op.intCmp]; rfl, fun X Y w => by have hq := q.eq; subst hq; simp [binOp, eqGuard, Op.intCmp]; rfl⟩
instance Eqv.bool {t : TypeId} {a b : Bool} {bb : Bool} [ut : U P t .bool] [q : BV (a == b) bb] : Eqv P t (.bool a) (.bool b) bb :=
  ⟨fun X Y w => by have hq := q.eq; subst hq; simp [binOp, eqGuard, run_equal_bool w t a b ut.h], fun X Y w => by have hq := q.eq; subst hq; simp [binOp, eqGuard, run_equal_bool w t a b ut.h, bne]⟩
instance Step.eql {v1 v2 : Value} {b : Bool} {t u : TypeId} {x y : Operand} [h : Ev f x v1] [g : Ev f y v2] [e : Eqv P t v1 v2 b] : StepV P (.binOp .eql t x y u) ty f σ (.bool b) :=
  ⟨(by
    simp only [execOp, h.eq, g.eq]
    rw [Sem.run_bind, e.eq x y σ.w]
    rfl)⟩
instance Step.neq {v1 v2 : Value} {b bb : Bool} {t u : TypeId} {x y : Operand} [h : Ev f x v1] [g : Ev f y v2] [e : Eqv P t v1 v2 b] [q : BV (!b) bb] : StepV P (.binOp .neq t x y u) ty f σ (.bool bb) :=
  ⟨(by
    have hq := q.eq; subst hq
    simp only [execOp, h.eq, g.eq]
    rw [Sem.run_bind, e.ne x y σ.w]
    rfl)⟩

/-- a new variable of the call's own -/
instance Step.box {x : Operand} {t : TypeId} {v : Value} {cs : Array Value} [h : Ev f x v] [c : Cells v cs] :
    Step P (.box t x) ty f σ (fun K _ => ∀ (σ' : St) (b : Nat), Nx σ σ' .no → NewAt σ b → Own σ' b t cs → K (.pointer (some ⟨b, 0, none⟩)) σ') :=
  ⟨fun K E hK => by
    obtain ⟨σ', hw, hn, hm, _, ho, _⟩ := st_new σ (.cells cs t) True
    have hr : (execOp (evo f) ⟨none, .box t x, ty, "", #[], none⟩).run P σ.w = .ok (.value (.pointer (some ⟨σ.w.heap.size, 0, none⟩))) (σ.w.alloc (.cells cs t)) := by
      simp [execOp, h.eq, Instr.box, newVar, newRow, newObj, c.eq]; rfl
    unfold OpW; rw [hr]
    exact ⟨σ', hw, hK σ' _ ⟨hn⟩ ⟨Nat.le_refl _⟩ ⟨hm.2 trivial, ho⟩⟩⟩
instance Step.alloc {t : TypeId} {cs : Array Value} [c : TZ P t cs] :
    Step P (.alloc t) ty f σ (fun K _ => ∀ (σ' : St) (b : Nat), Nx σ σ' .no → NewAt σ b → Own σ' b t cs → K (.pointer (some ⟨b, 0, none⟩)) σ') :=
  ⟨fun K E hK => by
    obtain ⟨σ', hw, hn, hm, _, ho, _⟩ := st_new σ (.cells cs t) True
    obtain ⟨i, z, hi, hz, hc⟩ := c.h
    have hr : (execOp (evo f) ⟨none, .alloc t, ty, "", #[], none⟩).run P σ.w = .ok (.value (.pointer (some ⟨σ.w.heap.size, 0, none⟩))) (σ.w.alloc (.cells cs t)) := by
      simp [execOp, Instr.alloc, zeroValue, typeInfo, hi, hz, newVar, newRow, newObj, hc]; rfl
    unfold OpW; rw [hr]
    exact ⟨σ', hw, hK σ' _ ⟨hn⟩ ⟨Nat.le_refl _⟩ ⟨hm.2 trivial, ho⟩⟩⟩
instance Step.load {x : Operand} {t t0 : TypeId} {b off : Nat} {cs : Array Value} {agg : Bool} {size bytes : Nat} {v : Value} [h : Ev f x (.pointer (some ⟨b, off, none⟩))] [o : Own σ b t0 cs] [ti : TI P t agg size bytes] [l : LoadV cs off size agg v] :
    StepV P (.load t x) ty f σ v :=
  ⟨(by simp [execOp, h.eq, Instr.loadAt, Instr.sureAddr, run_loadVar_cells ti (fun j _ => cell_own o.h _) l])⟩
instance Step.store {x y : Operand} {t t0 : TypeId} {b off : Nat} {cs vs cs' : Array Value} {agg : Bool} {size bytes : Nat} {v : Value} [h : Ev f x (.pointer (some ⟨b, off, none⟩))] [g : Ev f y v] [o : Own σ b t0 cs] [ti : TI P t agg size bytes]
    [c : Cells v vs] [zE : CSzE vs size] [l : PutV cs off vs cs'] :
    Step P (.store t x y) ty f σ (fun K _ => ∀ σ' : St, Nx σ σ' (.one b t0) → Own σ' b t0 cs' → K undef σ') :=
  ⟨fun K E hK => by
    have z := zE.z
    obtain ⟨σ', hw, hn, ho⟩ := st_set o cs'
    have hr : (execOp (evo f) ⟨none, .store t x y, ty, "", #[], none⟩).run P σ.w = .ok .skip (σ.w.setRow b cs') := by
      simp [execOp, h.eq, g.eq, Instr.storeAt, Instr.sureAddr, run_storeVar_own ti c z o.h l]
    unfold OpW; rw [hr]
    exact ⟨σ', hw, hK σ' ⟨hn⟩ ho⟩⟩

/-! calls -/
class CallRule (P : Program) (g : FuncId) (args : List Value) (σ : St) (S : outParam Tr) : Prop where
  sound : ∀ (K : KV) (E : KE), S K E → Calls P g args.toArray σ.w (fun
    | .returned v, w' => ∃ σ' : St, σ'.w = w' ∧ K v σ'
    | .panicked c, w' => ∃ σ' : St, σ'.w = w' ∧ E c σ'
    | .outgrown, _ => False)
class Fnc (P : Program) (g : FuncId) : Prop where
  run : ∀ args w, (callFunc g args).run P w = .ok (.enter g args) w
theorem Fnc.mk_ {P : Program} {g : FuncId} {fn : Func} {c : Code} (hf : P.funcs[g]? = some fn) (hname : (fn.name == "runtime.NumGoroutine") = false) (hb : fn.body = some c) : Fnc P g := by
  refine ⟨fun args w => ?_⟩
  have h1 : fn.name ≠ "runtime.NumGoroutine" := by simpa using hname
  simp [callFunc, hf, h1, hb]
/-- a function value, and how it is called -/
class ValRule (P : Program) (fv : Value) (args : List Value) (σ : St) (S : outParam Tr) : Prop where
  sound : ∀ (K : KV) (E : KE), S K E → ∃ fn first cap, fv = .func fn first cap ∧ ∃ g, fn = .func g ∧ Fnc P g ∧ Calls P g (first ++ args.toArray ++ cap) σ.w (fun
    | .returned v, w' => ∃ σ' : St, σ'.w = w' ∧ K v σ'
    | .panicked c, w' => ∃ σ' : St, σ'.w = w' ∧ E c σ'
    | .outgrown, _ => False)
instance ValRule.static {g : FuncId} {args : List Value} {S : Tr} [i : Fnc P g] [r : CallRule P g args σ S] : ValRule P (.func (.func g) #[] #[]) args σ S :=
  ⟨fun K E h => ⟨_, _, _, rfl, g, rfl, i, by simpa using r.sound K E h⟩⟩
class AppL (l m : List Value) (r : outParam (List Value)) : Prop where
  eq : l ++ m = r
instance AppL.nil {m : List Value} : AppL [] m m := ⟨rfl⟩
instance AppL.cons {v : Value} {l m r : List Value} [h : AppL l m r] : AppL (v :: l) m (v :: r) := ⟨by rw [List.cons_append, h.eq]⟩
instance ValRule.closure {g : FuncId} {args cap all : List Value} {S : Tr} [i : Fnc P g] [ap : AppL args cap all] [r : CallRule P g all σ S] : ValRule P (.func (.func g) #[] (List.toArray cap)) args σ S :=
  ⟨fun K E h => ⟨_, _, _, rfl, g, rfl, i, by have := r.sound K E h; rw [← ap.eq] at this; simpa using this⟩⟩
instance Step.call {x : Operand} {args : List Operand} {ts : Array TypeId} {fv : Value} {vs : List Value} {S : Tr} [h : Ev f x fv] [g : EvL f args vs] [r : ValRule P fv vs σ S] :
    Step P (.call { callee := .value x, args := args.toArray, argTypes := ts }) ty f σ S :=
  ⟨fun K E hS => by
    obtain ⟨fn, first, cap, rfl, gg, rfl, i, hc⟩ := r.sound K E hS
    have hr : (execOp (evo f) ⟨none, .call { callee := .value x, args := args.toArray, argTypes := ts }, ty, "", #[], none⟩).run P σ.w = .ok (.enter gg (first ++ vs.toArray ++ cap)) σ.w := by
      simp [execOp, resolve, h.eq, g.eq, Deferred.ofValue, invoke, i.run]
    unfold OpW; rw [hr]
    exact hc.mono fun e w' he => by cases e <;> exact he⟩

/-- a function without a Go body, that reads alone -/
class ExtRule (P : Program) (g : FuncId) (args : List Value) (σ : St) (v : outParam Value) : Prop where
  run : (callFunc g args.toArray).run P σ.w = .ok (.value v) σ.w
instance (priority := low) Step.extern {g : FuncId} {args : List Operand} {ts : Array TypeId} {vs : List Value} {v : Value} [e : EvL f args vs] [r : ExtRule P g vs σ v] :
    StepV P (.call { callee := .value (.func g), args := args.toArray, argTypes := ts }) ty f σ v :=
  ⟨(by simp [execOp, resolve, evo, e.eq, Deferred.ofValue, invoke, r.run])⟩

/-- len of a slice -/
instance Step.len_slice {x : Operand} {t e : TypeId} {A : Option Addr} {n c : Nat} [u : U P t (.slice e)] [h : Ev f x (.slice A n c)] :
    StepV P (.call { callee := .builtin .len, args := #[x], argTypes := #[t] }) ty f σ (.int .i64 n) :=
  ⟨(by simp [execOp, resolve, h.eq, invoke, builtin, Builtin.len_, run_underlying u.h, goInt])⟩
/-- the address of an array as a slice of it all -/
instance Step.slice_array {x : Operand} {t e : TypeId} {b m : Nat} {agg : Bool} {size bytes : Nat} [u : U P t (.array m e)] [ti : TI P e agg size bytes] [h : Ev f x (.pointer (some ⟨b, 0, none⟩))] :
    StepV P (.slice t x none none none) ty f σ (.slice (some ⟨b, 0, none⟩) m m) :=
  ⟨(by simp [execOp, h.eq, Instr.sliceAt, run_underlying u.h, Instr.sureAddr, Instr.sliceBounds, ti.run_sizeOf, add_at])⟩
end

/-! ### Entering a function, and coming back -/
def resQ (P : Program) (fn : Func) (K : KV) (E : KE) : PostQ
  | .normal, D, f, σ | .ret, D, f, σ => D = [] ∧ ∃ v, (∀ a : Act, fr a = f → (results fn a.tmps).run P σ.w = .ok v σ.w) ∧ ∃ σ' : St, σ'.w = σ.w ∧ K v σ'
  | .panic c, D, _, σ => D = [] ∧ E c σ
  | _, _, _, _ => False
def argsF (args : List Value) (n : Nat) : Fr := fun j => (args ++ List.replicate (n - args.length) undef).getD j undef
theorem calls_enter {P : Program} {g : FuncId} {fn : Func} {c : Code} {args : List Value} {σ : St} {K : KV} {E : KE} (hf : P.funcs[g]? = some fn) (hb : fn.body = some c) (n : Nat) (hn : fn.ntmps = n) (hl : Nat.ble args.length n = true)
    (h : WC P n (resQ P fn K E) c [] (argsF args n) σ) : Calls P g args.toArray σ.w (fun
    | .returned v, w' => ∃ σ' : St, σ'.w = w' ∧ K v σ'
    | .panicked c, w' => ∃ σ' : St, σ'.w = w' ∧ E c σ'
    | .outgrown, _ => False) := by
  have hl' : args.length ≤ n := Nat.le_of_ble_eq_true hl
  refine calls_of_wp hf hb (wp_mono (h.use ⟨args.toArray ++ Array.replicate (fn.ntmps - args.toArray.size) undef, []⟩ ?_ rfl ?_) ?_)
  · simp [hn]; omega
  · funext j
    simp [fr, argsF, hn, List.getD_eq_getElem?_getD, List.getElem?_append, Array.getElem?_append, List.getElem?_replicate, Array.getElem?_replicate]
  · rintro e a' _ ⟨hn', σ', rfl, hq⟩
    cases e with
    | normal => obtain ⟨hd, v, hr, hk⟩ := hq; exact ⟨hd, v, hr a' rfl, hk⟩
    | ret => obtain ⟨hd, v, hr, hk⟩ := hq; exact ⟨hd, v, hr a' rfl, hk⟩
    | panic ch => exact ⟨hq.1, σ', rfl, hq.2⟩
    | exit id => exact hq.elim
    | goto l => exact hq.elim
    | outgrown => exact hq.elim
class AtA (l : List Value) (j : Nat) (v : outParam Value) : Prop where
  eq : l[j]? = some v
instance AtA.zero {v : Value} {l : List Value} : AtA (v :: l) 0 v := ⟨rfl⟩
instance AtA.s1 {v u : Value} {l : List Value} {j : Nat} [h : AtA l j v] : AtA (u :: l) (j + 1) v := ⟨by simpa using h.eq⟩
instance At.args {l : List Value} {n j : Nat} {v : Value} [h : AtA l j v] : At (argsF l n) j v := ⟨by
  have h1 := h.eq
  have : j < l.length := (List.getElem?_eq_some_iff.1 h1).1
  simp [argsF, List.getD_eq_getElem?_getD, List.getElem?_append, this, (List.getElem?_eq_some_iff.1 h1).2]⟩
/-! how the end stands to the beginning -/
class Fresh0 (σ0 : St) (b : Nat) : Prop where
  ge : σ0.w.heap.size ≤ b
class FreshR (σ0 : St) (A : Option Addr) : Prop where
  ge : ∀ a, A = some a → σ0.w.heap.size ≤ a.block
instance Sub.refl {σ : St} : Sub σ σ := ⟨Below.refl _ _, fun _ h => h, fun _ _ h => h⟩
theorem Sub.size {σ0 σ : St} (h : Sub σ0 σ) : σ0.w.heap.size ≤ σ.w.heap.size := h.b.size
instance Fresh0.of {σ0 σ : St} {b : Nat} [h : NewAt σ b] [s : Sub σ0 σ] : Fresh0 σ0 b := ⟨Nat.le_trans s.size h.ge⟩
theorem Sub.step {σ0 σ σ' : St} {X : Xs} (n : NxP σ σ' X) (s : Sub σ0 σ) (hx : ∀ b, X.hits b → σ0.w.heap.size ≤ b) : Sub σ0 σ' := by
  refine ⟨s.b.trans ⟨n.os, n.tape, n.output, n.size, fun b hb => (n.own b (Nat.lt_of_lt_of_le hb s.size) (fun h => ?_)).1⟩, fun b hb => (n.own b (Nat.lt_of_lt_of_le (σ0.wf b hb) s.size) (fun h => ?_)).2 (s.m b hb), fun b hb hm => s.mm b hb (n.mm b (Nat.lt_of_lt_of_le hb s.size) hm)⟩
  · have := hx b h; omega
  · have := hx b h; have := σ0.wf b hb; omega
/-- what turned was not there at the beginning -/
class FreshX (σ0 : St) (X : Xs) : Prop where
  h : ∀ b, X.hits b → σ0.w.heap.size ≤ b
instance FreshX.no {σ0 : St} : FreshX σ0 .no := ⟨fun _ h => h.elim⟩
instance FreshX.one {σ0 : St} {b : Nat} {t : TypeId} [f : Fresh0 σ0 b] : FreshX σ0 (.one b t) := ⟨fun _ h => by cases h; exact f.ge⟩
instance FreshX.map {σ0 : St} {b : Nat} [f : Fresh0 σ0 b] : FreshX σ0 (.map b) := ⟨fun _ h => by cases h; exact f.ge⟩
instance FreshX.row {σ0 : St} {A : Option Addr} {t : TypeId} [f : FreshR σ0 A] : FreshX σ0 (.row A t) := ⟨fun _ h => by
  obtain ⟨a, ha, rfl⟩ := h; exact f.ge a ha⟩
instance FreshX.un {σ0 : St} {X Y : Xs} [f : FreshX σ0 X] [g : FreshX σ0 Y] : FreshX σ0 (.un X Y) := ⟨fun b h => h.elim (f.h b) (g.h b)⟩
instance (priority := low) Sub.step_ {σ0 σ σ' : St} {X : Xs} [n : Nx σ σ' X] [s : Sub σ0 σ] [f : FreshX σ0 X] : Sub σ0 σ' := s.step n.p f.h
theorem Sub.nx {σ0 σ : St} (s : Sub σ0 σ) : Nx σ0 σ .no := ⟨⟨s.b.os, s.b.tape, s.b.output, s.size, fun b hb _ => s.b.block b hb, s.mm, fun b hb _ => ⟨s.b.block b hb, s.m b⟩, trivial⟩⟩
/-- the same world, fewer blocks that may turn -/
class Wk (σ : outParam St) (σ' : St) : Prop where
  w : σ'.w = σ.w
  m : ∀ b, σ'.M b → σ.M b
/-- the same world, the blocks that may turn as at the beginning -/
class Bk (σ0 σ : outParam St) (σ' : St) : Prop where
  w : σ'.w = σ.w
  m : ∀ b, σ'.M b ↔ σ0.M b
  s : Sub σ0 σ
instance Wk.ofBk {σ0 σ σ' : St} [h : Bk σ0 σ σ'] : Wk σ σ' := ⟨h.w, fun b hb => h.s.m b ((h.m b).1 hb)⟩
theorem Sub.back {σ0 σ : St} (s : Sub σ0 σ) : ∃ σ' : St, σ'.w = σ.w ∧ Nx σ0 σ' .no ∧ Bk σ0 σ σ' :=
  ⟨⟨σ.w, σ0.M, fun b hb => Nat.lt_of_lt_of_le (σ0.wf b hb) s.size⟩, rfl, ⟨⟨s.b.os, s.b.tape, s.b.output, s.size, fun b hb _ => s.b.block b hb, fun _ _ h => h, fun b hb _ => ⟨s.b.block b hb, id⟩, trivial⟩⟩, ⟨rfl, fun _ => Iff.rfl, s⟩⟩

section
variable {P : Program} {fn : Func} {f : Fr} {σ σ0 : St} {K : KV} {E : KE}
theorem res1 {j : Nat} {v : Value} (hr : fn.results = #[.tmp j]) [h : At f j v] (hk : K v σ) : resQ P fn K E .ret [] f σ :=
  ⟨rfl, v, fun a ha => (by rw [results_tmp hr]; subst ha; have := h.eq; unfold fr at this; rw [this]), σ, rfl, hk⟩
theorem res2 {j k : Nat} {v u : Value} (hr : fn.results = #[.tmp j, .tmp k]) [h : At f j v] [g : At f k u] (hk : K (.tuple #[v, u]) σ) : resQ P fn K E .ret [] f σ :=
  ⟨rfl, _, fun a ha => (by rw [results_tmp2 hr]; subst ha; have := h.eq; have g' := g.eq; unfold fr at this g'; rw [this, g']), σ, rfl, hk⟩
/-- the end of a call that turned nothing that was there -/
theorem back1 {j : Nat} {v : Value} (hr : fn.results = #[.tmp j]) [h : At f j v] [s : Sub σ0 σ] (hk : ∀ σ', Nx σ0 σ' .no → Bk σ0 σ σ' → K v σ') : resQ P fn K E .ret [] f σ := by
  obtain ⟨σ', hw, hn, hwk⟩ := s.back
  refine ⟨rfl, v, fun a ha => ?_, σ', hw, hk σ' hn hwk⟩
  rw [results_tmp hr]; subst ha; have := h.eq; unfold fr at this; rw [this]
theorem back2 {j k : Nat} {v u : Value} (hr : fn.results = #[.tmp j, .tmp k]) [h : At f j v] [g : At f k u] [s : Sub σ0 σ] (hk : ∀ σ', Nx σ0 σ' .no → Bk σ0 σ σ' → K (.tuple #[v, u]) σ') : resQ P fn K E .ret [] f σ := by
  obtain ⟨σ', hw, hn, hwk⟩ := s.back
  refine ⟨rfl, _, fun a ha => ?_, σ', hw, hk σ' hn hwk⟩
  rw [results_tmp2 hr]; subst ha; have := h.eq; have g' := g.eq; unfold fr at this g'; rw [this, g']
end

theorem resQ_mk {P : Program} {fn : Func} {K : KV} {E : KE} {e : Exit} (he : e = .ret ∨ e = .normal) {f : Fr} {σ : St} {v : Value} (hr : ∀ a : Act, fr a = f → (results fn a.tmps).run P σ.w = .ok v σ.w) (hk : ∃ σ' : St, σ'.w = σ.w ∧ K v σ') : resQ P fn K E e [] f σ := by
  rcases he with rfl | rfl <;> exact ⟨rfl, v, hr, hk⟩
theorem resQ_panic {P : Program} {fn : Func} {K : KV} {E : KE} {c : List PanicEntry} {D : List Deferred} {f f' : Fr} {σ : St} (h : resQ P fn K E (.panic c) D f σ) : resQ P fn K E (.panic c) D f' σ := h
section
variable {P : Program} {fn : Func} {f : Fr} {σ : St} {K : KV} {E : KE}
theorem res0 (hr : fn.results = #[]) (hk : K (.tuple #[]) σ) : resQ P fn K E .ret [] f σ :=
  ⟨rfl, _, fun a ha => by rw [results_none hr], σ, rfl, hk⟩
theorem res0n (hr : fn.results = #[]) (hk : K (.tuple #[]) σ) : resQ P fn K E .normal [] f σ := res0 (E := E) hr hk
end

/-! ### The continuations, one step -/
section
variable {next : List Deferred → Fr → St → Prop} {Q : PostQ} {D : List Deferred} {f : Fr} {σ : St} {id id' : Nat} {c : List PanicEntry}
theorem then_n (h : next D f σ) : thenQ next Q .normal D f σ := h
theorem then_r (h : Q .ret D f σ) : thenQ next Q .ret D f σ := h
theorem then_e (h : Q (.exit id) D f σ) : thenQ next Q (.exit id) D f σ := h
theorem then_p (h : Q (.panic c) D f σ) : thenQ next Q (.panic c) D f σ := h
theorem block_n (h : Q .normal D f σ) : blockQ id Q .normal D f σ := h
theorem block_r (h : Q .ret D f σ) : blockQ id Q .ret D f σ := h
theorem block_p (h : Q (.panic c) D f σ) : blockQ id Q (.panic c) D f σ := h
theorem block_hit (h : Q .normal D f σ) : blockQ id Q (.exit id) D f σ := by simpa [blockQ] using h
theorem block_miss [k : NeN id' id] (h : Q (.exit id') D f σ) : blockQ id Q (.exit id') D f σ := by simpa [blockQ, k.ne] using h
variable {ι : Type} {Inv : ι → Fr → St → Prop} {μ : ι → Nat} {i : ι} {D' : List Deferred}
theorem loop_n (i' : ι) (h : Inv i' f σ) (hm : μ i' < μ i) : loopQ Inv μ i D Q .normal D f σ := ⟨rfl, i', h, hm⟩
theorem loop_x {W : Nat} {f0 : Fr} {σ0 : St} {X : Xs} (i' : ι) [a : AgreeG f W f0] (hx : Nx σ0 σ X) (h : Inv i' f σ) (hm : μ i' < μ i) : loopQA Inv μ W f0 σ0 X i D Q .normal D f σ := ⟨rfl, i', ⟨a.h, hx, h⟩, hm⟩
theorem loop_r (h : Q .ret D f σ) : loopQ Inv μ i D' Q .ret D f σ := h
theorem loop_e (h : Q (.exit id) D f σ) : loopQ Inv μ i D' Q (.exit id) D f σ := h
theorem loop_p (h : Q (.panic c) D f σ) : loopQ Inv μ i D' Q (.panic c) D f σ := h
end
attribute [irreducible] resQ
end Go.Proofs.Ythdhnkgnbdociaa
