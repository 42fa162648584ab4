/- The engine, part 10: structs: cells in pieces, their fields, numbers of fixed kinds. No condition. -/
import Derived.Test.YthdhnkgnbdociaaFnv
import Derived.Test.YthdhnkgnbdociaaEl
import Derived.Laws.StructEq
set_option linter.all false
namespace Go.Proofs.Ythdhnkgnbdociaa
open Go Go.RowKit
/-- cells, piece by piece -/
def cats (l : List (Array Value)) : Array Value := (l.flatMap Array.toList).toArray
theorem cats_toList (l : List (Array Value)) : (cats l).toList = l.flatMap Array.toList := rfl
theorem cats_cons (s : Array Value) (l : List (Array Value)) : (cats (s :: l)).toList = s.toList ++ (cats l).toList := rfl
theorem cats_one (s : Array Value) : cats [s] = s := by apply Array.ext'; simp [cats]
theorem cats_size (s : Array Value) (l : List (Array Value)) : (cats (s :: l)).size = s.size + (cats l).size := by
  simp [cats]
theorem cats_append (l m : List (Array Value)) : cats (l ++ m) = cats l ++ cats m := by
  apply Array.ext'; simp [cats]
instance CSz.cats0 : CSz (cats []) 0 := ⟨rfl, by simp [cats]⟩
instance CSz.cats {s : Array Value} {l : List (Array Value)} {n m : Nat} [h : CSz s n] [g : CSz (cats l) m] : CSz (cats (s :: l)) (n + m) :=
  ⟨by rw [cats_size, h.size, g.size], fun v hv => by
    rw [cats_cons] at hv
    rcases List.mem_append.1 hv with hv | hv
    · exact h.one v hv
    · exact g.one v hv⟩
theorem ge_of_ble {n o : Nat} (h : EqB (Nat.ble n o) true) : n ≤ o := Nat.le_of_ble_eq_true h.eq
theorem lt_of_nble' {n o : Nat} (h : EqB (Nat.ble n o) false) : o < n := Nat.lt_of_not_le fun k => by rw [Nat.ble_eq_true_of_le k] at h; exact absurd h.eq (by simp)
theorem take_drop_cats {s : Array Value} {l : List (Array Value)} {n : Nat} (hs : s.size = n) (o k : Nat) (h : n ≤ o) : (cats (s :: l)).extract o (o + k) = (cats l).extract (o - n) (o - n + k) := by
  apply Array.ext'
  rw [Array.toList_extract, Array.toList_extract, List.extract_eq_take_drop, List.extract_eq_take_drop, cats_cons, List.drop_append, List.drop_eq_nil_of_le (by simp; omega)]
  simp only [List.nil_append, Array.length_toList, hs]
  congr 1
  omega
/-! reading -/
instance (priority := 900) LoadV.skip {s : Array Value} {l : List (Array Value)} {n o sz : Nat} {agg : Bool} {v : Value} [h : CSz s n] [k : EqB (Nat.ble n o) true] [g : LoadV (cats l) (Nat.sub o n) sz agg v] : LoadV (cats (s :: l)) o sz agg v := by
  have hk := ge_of_ble k
  have hf := g.fit
  have hsz := h.size
  simp only [Nat.sub_eq] at hf
  refine ⟨by rw [cats_size, hsz]; omega, fun ha => ?_, fun ha => ?_⟩
  · rw [take_drop_cats hsz o sz hk]; exact g.agg_ ha
  · obtain ⟨h1, h2⟩ := g.one ha
    refine ⟨?_, h2⟩
    rw [← Array.getElem?_toList, cats_cons, List.getElem?_append_right (by simp; omega)]
    simpa [hsz] using h1
theorem loadV_first {s : Array Value} {l : List (Array Value)} {n o sz : Nat} {agg : Bool} {v : Value} (h : CSz s n) (g : LoadV s o sz agg v) : LoadV (cats (s :: l)) o sz agg v := by
  have hf := g.fit
  have hsz := h.size
  refine ⟨by rw [cats_size]; omega, fun ha => ?_, fun ha => ?_⟩
  · rw [g.agg_ ha]
    congr 1
    apply Array.ext'
    rw [Array.toList_extract, Array.toList_extract, List.extract_eq_take_drop, List.extract_eq_take_drop, cats_cons, List.drop_append_of_le_length (by simp; omega), List.take_append_of_le_length (by simp; omega)]
  · obtain ⟨h1, h2⟩ := g.one ha
    refine ⟨?_, h2⟩
    have ho : o < s.size := by omega
    rw [← Array.getElem?_toList, cats_cons, List.getElem?_append_left (by simpa using ho)]
    simpa using h1
instance (priority := 950) LoadV.first1 {s : Array Value} {l : List (Array Value)} {n sz : Nat} {o : Nat} {v : Value} [k : EqB (Nat.beq o 0) true] [h : CSz s n] [e : EqB (Nat.beq n sz) true] [g : LoadV s 0 sz true v] : LoadV (cats (s :: l)) o sz true v := by
  have := Nat.eq_of_beq_eq_true k.eq
  subst this
  exact loadV_first h g
instance (priority := 950) LoadV.first0 {w : Value} {l : List (Array Value)} {o : Nat} [k : EqB (Nat.beq o 0) true] : LoadV (cats (#[w] :: l)) o 1 false w := by
  have := Nat.eq_of_beq_eq_true k.eq
  subst this
  refine ⟨by rw [cats_size]; simp, nofun, fun _ => ⟨?_, rfl⟩⟩
  rw [← Array.getElem?_toList, cats_cons]; rfl
instance (priority := 800) LoadV.inside {s : Array Value} {l : List (Array Value)} {n o sz : Nat} {agg : Bool} {v : Value} [h : CSz s n] [k : EqB (Nat.ble n o) false] [k2 : EqB (Nat.ble n sz) false] [g : LoadV s o sz agg v] : LoadV (cats (s :: l)) o sz agg v := loadV_first h g
/-- the first pieces, as many cells as asked -/
class TakeS (l : List (Array Value)) (sz : Nat) (m : outParam (List (Array Value))) : Prop where
  h : ∃ r, l = m ++ r ∧ (cats m).size = sz
instance TakeS.zero {l : List (Array Value)} {sz : Nat} [k : EqB (Nat.beq sz 0) true] : TakeS l sz [] := ⟨l, rfl, by rw [Nat.eq_of_beq_eq_true k.eq]; rfl⟩
instance (priority := low) TakeS.succ {s : Array Value} {l m : List (Array Value)} {n sz : Nat} [h : CSz s n] [k : EqB (Nat.ble n sz) true] [g : TakeS l (Nat.sub sz n) m] : TakeS (s :: l) sz (s :: m) := by
  obtain ⟨r, e, hs⟩ := g.h
  have hk := ge_of_ble k
  refine ⟨r, by rw [e]; rfl, ?_⟩
  rw [cats_size, hs, h.size, Nat.sub_eq]; omega
instance (priority := 850) LoadV.many {s : Array Value} {l m : List (Array Value)} {n o sz : Nat} [k : EqB (Nat.beq o 0) true] [h : CSz s n] [k2 : EqB (Nat.ble sz n) false] [g : TakeS (s :: l) sz m] : LoadV (cats (s :: l)) o sz true (.agg (cats m)) := by
  have := Nat.eq_of_beq_eq_true k.eq
  subst this
  obtain ⟨r, e, hs⟩ := g.h
  rw [e, cats_append]
  refine ⟨by simp; omega, fun _ => ?_, nofun⟩
  congr 1
  apply Array.ext'
  rw [Array.toList_extract, List.extract_eq_take_drop]
  simp [hs]
/-! writing -/
instance (priority := 900) PutV.skip {s v : Array Value} {l r : List (Array Value)} {n o : Nat} [h : CSz s n] [k : EqB (Nat.ble n o) true] [g : PutV (cats l) (Nat.sub o n) v (cats r)] : PutV (cats (s :: l)) o v (cats (s :: r)) := by
  have hk := ge_of_ble k
  have hf := g.fit
  have hsz := h.size
  simp only [Nat.sub_eq] at hf
  refine ⟨by rw [cats_size, hsz]; omega, ?_⟩
  have he := g.eq
  have hsl : s.toList.length = n := by simpa using hsz
  apply Array.ext'
  rw [cats_cons, ← he]
  simp only [putCells, cats_cons, Nat.sub_eq, List.toList_toArray]
  rw [List.take_append, List.drop_append, List.take_of_length_le (by omega), List.drop_eq_nil_of_le (by omega : s.toList.length ≤ o + v.size), hsl]
  simp only [List.nil_append, List.append_assoc]
  congr 4
  omega
theorem putV_first {s s' v : Array Value} {l : List (Array Value)} {n o : Nat} (h : CSz s n) (h' : s'.size = n) (g : PutV s o v s') : PutV (cats (s :: l)) o v (cats (s' :: l)) := by
  have hf := g.fit
  have hsz := h.size
  refine ⟨by rw [cats_size]; omega, ?_⟩
  apply Array.ext'
  rw [cats_cons, ← g.eq]
  simp only [putCells, cats_cons]
  rw [List.take_append_of_le_length (by simp; omega), List.drop_append_of_le_length (by simp; omega)]
  simp
theorem putCells_size {cs v : Array Value} {o : Nat} (h : o + v.size ≤ cs.size) : (putCells cs o v).size = cs.size := by
  simp [putCells]; omega
instance (priority := 850) PutV.first {s v : Array Value} {l : List (Array Value)} {n o : Nat} [k : EqB (Nat.beq o 0) true] [h : CSz s n] [h' : CSz v n] : PutV (cats (s :: l)) o v (cats (v :: l)) := by
  have := Nat.eq_of_beq_eq_true k.eq
  subst this
  exact putV_first h h'.size ⟨by rw [h.size, h'.size]; omega, putCells_whole (by rw [h.size, h'.size])⟩
instance (priority := 800) PutV.inside {s s' v : Array Value} {l : List (Array Value)} {n o : Nat} [h : CSz s n] [k : EqB (Nat.ble n o) false] [g : PutV s o v s'] : PutV (cats (s :: l)) o v (cats (s' :: l)) :=
  putV_first h (by rw [← g.eq, putCells_size g.fit, h.size]) g
instance PutV.nil {l : List (Array Value)} {o : Nat} [k : EqB (Nat.beq o 0) true] : PutV (cats l) o (cats []) (cats l) := by
  have := Nat.eq_of_beq_eq_true k.eq
  subst this
  exact ⟨by simp [cats], by apply Array.ext'; simp [putCells, cats]⟩
instance (priority := 950) PutV.many {s v : Array Value} {l r w : List (Array Value)} {n o : Nat} [k : EqB (Nat.beq o 0) true] [h : CSz s n] [h' : CSz v n] [g : PutV (cats l) 0 (cats w) (cats r)] : PutV (cats (s :: l)) o (cats (v :: w)) (cats (v :: r)) := by
  have := Nat.eq_of_beq_eq_true k.eq
  subst this
  have hf := g.fit
  refine ⟨by rw [cats_size, cats_size, h.size, h'.size]; omega, ?_⟩
  apply Array.ext'
  rw [cats_cons, ← g.eq]
  simp only [putCells, cats_cons, List.take_zero, List.nil_append, Nat.zero_add, cats_size, h'.size]
  rw [List.drop_append, List.drop_eq_nil_of_le (by simp [h.size])]
  simp [h.size]
/-! numbers of fixed kinds -/
class U32 (n : Int) (x : outParam UInt32) : Prop where
  eq : n = (x.toNat : Int)
instance U32.cast {x : UInt32} : U32 (x.toNat : Int) x := ⟨rfl⟩
instance (priority := low) U32.lit {n : Nat} [h : EqB (Nat.ble n 4294967295) true] : U32 (no_index (OfNat.ofNat n) : Int) (UInt32.ofNat n) := ⟨by
  have := Nat.le_of_ble_eq_true h.eq
  simp only [UInt32.toNat_ofNat', show (OfNat.ofNat n : Int) = (n : Int) from rfl]
  omega⟩
instance (priority := 50) U32.fit {n : Int} [h : Fits .u32 n] : U32 n (UInt32.ofNat n.toNat) := ⟨by
  have := h.eq
  rw [IntKind.wrap_u32] at this
  simp only [UInt32.toNat_ofNat']
  omega⟩
class I64 (n : Int) (x : outParam Int64) : Prop where
  eq : n = x.toInt
instance I64.cast {x : Int64} : I64 x.toInt x := ⟨rfl⟩
instance (priority := 50) I64.fit {n : Int} [h : Fits .i64 n] : I64 n (Int64.ofInt n) := ⟨by
  have := h.eq
  rw [IntKind.wrap_i64] at this
  rw [Int64.toInt_ofInt]
  show n = Int.bmod n 18446744073709551616
  rw [Int.bmod_eq_of_le] <;> omega⟩
instance (priority := low) I64.lit {n : Nat} [h : EqB (Nat.ble n 9223372036854775807) true] : I64 (no_index (OfNat.ofNat n) : Int) (Int64.ofInt (n : Int)) := ⟨by
  have h1 := Nat.le_of_ble_eq_true h.eq
  show (n : Int) = (Int64.ofInt (n : Int)).toInt
  rw [Int64.toInt_ofInt]
  show (n : Int) = Int.bmod (n : Int) 18446744073709551616
  rw [Int.bmod_eq_of_le] <;> omega⟩
instance Fits.u32c {x : UInt32} : Fits .u32 (x.toNat : Int) := ⟨by rw [IntKind.wrap_u32]; have := x.toNat_lt; omega⟩
instance Fits.i64c {x : Int64} : Fits .i64 x.toInt := ⟨by rw [IntKind.wrap_i64]; have := x.toInt_lt; have := x.le_toInt; omega⟩
/-- a value stands for x -/
class ValOf {α : Type} (E : Elem α) (v : Value) (x : outParam α) : Prop where
  eq : v = E.val x
/-- nothing is to be known of it beyond its cells -/
class Plain {α : Type} (E : Elem α) : Prop where
  ok : ∀ σ x, E.ok σ x
instance (priority := low) OkE.plain {σ : St} {α : Type} {E : Elem α} {x : α} [h : Plain E] : OkE σ E x := ⟨h.ok σ x⟩
instance (priority := low) EncV.val {σ : St} {α : Type} {E : Elem α} {v : Value} {x : α} [h : ValOf E v x] [k : OkE σ E x] : EncV σ E v x := ⟨h.eq, k.h⟩
/-! equality -/
theorem u32_beq {x y : UInt32} : ((x.toNat : Int) == (y.toNat : Int)) = decide (x = y) := by
  rw [Bool.eq_iff_iff]
  simp only [beq_iff_eq, decide_eq_true_eq]
  exact ⟨fun h => UInt32.toNat_inj.1 (by omega), fun h => by rw [h]⟩
theorem i64_beq {x y : Int64} : (x.toInt == y.toInt) = decide (x = y) := by
  rw [Bool.eq_iff_iff]
  simp only [beq_iff_eq, decide_eq_true_eq]
  exact ⟨fun h => Int64.toInt_inj.1 h, fun h => by rw [h]⟩
theorem bool_beq {x y : Bool} : (x == y) = decide (x = y) := by cases x <;> cases y <;> rfl
/-- '==' at the type of these elements -/
class EqD (P : Program) (t : TypeId) {α : Type} (E : Elem α) [DecidableEq α] (k : outParam Nat) : Prop where
  run : ∀ (d : Nat) (w : World) (a b : α), (Op.equalIn (d + k) t (E.val a) (E.val b)).run P w = .ok (decide (a = b)) w
  gd : P.eqGuardType P.depth t = false
theorem eqFields_cons {P : Program} {d : Nat} {w : World} {xs ys : Array Value} {g : Field} {fs : List Field} {v1 v2 : Value} {b c : Bool} (hn : (g.name != "_") = true) (h1 : (part g.type xs g.offset).run P w = .ok v1 w) (h2 : (part g.type ys g.offset).run P w = .ok v2 w)
    (he : (Op.equalIn d g.type v1 v2).run P w = .ok b w) (hr : (Op.eqFields d xs ys fs).run P w = .ok c w) : (Op.eqFields d xs ys (g :: fs)).run P w = .ok (b && c) w := by
  have hn' : g.name ≠ "_" := by simpa using hn
  unfold Op.eqFields
  simp only [Sem.run_ite, hn', ne_eq, not_false_eq_true, if_true, Sem.run_bind, h1, h2, he, Result.andThen_ok]
  cases b <;> simp [hr]
theorem eqFields_nil {P : Program} {d : Nat} {w : World} {xs ys : Array Value} : (Op.eqFields d xs ys []).run P w = .ok true w := by simp [Op.eqFields]
instance (priority := 90) Eqv.ofD {P : Program} {t : TypeId} {α : Type} {E : Elem α} [DecidableEq α] {k : Nat} {cs ds : Array Value} {x y : α} {bb : Bool} {bytes : Nat} [eo : ElemOf P t E bytes] [e : EqD P t E k] [kl : EqB (Nat.ble k 10000) true] [h : ValOf E (.agg cs) x] [g : ValOf E (.agg ds) y] [q : BV (decide (x = y)) bb] : Eqv P t (.agg cs) (.agg ds) bb := by
  have hq := q.eq; subst hq
  have hk := Nat.le_of_ble_eq_true kl.eq
  exact Eqv.of_agg e.gd (fun w => by
    have := e.run (10000 - k) w x y
    rw [Nat.sub_add_cancel hk, ← h.eq, ← g.eq] at this
    exact this)
/-! fields -/
/-- where a field lies, and its type -/
class FO (P : Program) (t : TypeId) (i : Nat) (off ft : outParam Nat) : Prop where
  h : ∃ fs f, P.underlying t = some (.struct fs) ∧ fs[i]? = some f ∧ f.offset = off ∧ f.type = ft
theorem FO.mk_ {P : Program} {t : TypeId} {fs : Array Field} {i off ft : Nat} {f : Field} (u : P.underlying t = some (.struct fs)) (h : fs[i]? = some f) (h1 : f.offset = off) (h2 : f.type = ft) : FO P t i off ft := ⟨fs, f, u, h, h1, h2⟩
class PosSz (n : Nat) : Prop where
  h : 0 < n
instance PosSz.of {n : Nat} [k : EqB (Nat.beq n 0) false] : PosSz n := ⟨by have := ne_of_beq_f k.eq; omega⟩
def slotF (A : Option Addr) (o : Nat) : Value := .pointer (A.map (·.add o))
section
variable {P : Program} {f : Fr} {σ : St} {ty t ft : TypeId} {b off fo sz bytes i : Nat} {agg : Bool} {A : Option Addr} {n c : Nat} {α : Type} {E : Elem α} {xs : List α}
theorem run_field {cs : Array Value} {v : Value} (ti : TI P ft agg sz bytes) (l : LoadV cs fo sz agg v) (w : World) : (part ft cs fo).run P w = .ok v w := by
  unfold part
  rw [Sem.run_bind, ti.run_isAgg]
  cases agg with
  | true => simp [ti.run_sizeOf, l.agg_ rfl]
  | false =>
    obtain ⟨h1, h2⟩ := l.one rfl
    simp [h1]
instance StepV.field {x : Operand} {cs : Array Value} {v : Value} [h : Ev f x (.agg cs)] [fd : FO P t i fo ft] [ti : TI P ft agg sz bytes] [l : LoadV cs fo sz agg v] : StepV P (.field t x i) ty f σ v := ⟨by
  obtain ⟨fs, g, hu, hi, h1, h2⟩ := fd.h
  subst h1; subst h2
  have hr := run_field ti l σ.w
  have ha : asAgg (Value.agg cs) = pure cs := rfl
  simp [execOp, h.eq, Instr.field, run_underlying hu, hi, ha, hr]⟩
class AddN (a b : Nat) (c : outParam Nat) : Prop where
  h : a + b = c
instance AddN.z {b : Nat} : AddN 0 b b := ⟨by omega⟩
instance (priority := low) AddN.of {a b : Nat} : AddN a b (Nat.add a b) := ⟨rfl⟩
instance StepV.fieldAddr {x : Operand} {o2 : Nat} [h : Ev f x (.pointer (some ⟨b, off, none⟩))] [fd : FO P t i fo ft] [ti : TI P ft agg sz bytes] [p : PosSz sz] [q : AddN off fo o2] : StepV P (.fieldAddr t x i) ty f σ (.pointer (some ⟨b, o2, none⟩)) := ⟨by
  obtain ⟨fs, g, hu, hi, h1, h2⟩ := fd.h
  subst h1; subst h2
  have hq := q.h; subst hq
  have hp := p.h
  have hz : ¬ sz = 0 := by omega
  have ha : (⟨b, off, none⟩ : Addr).add g.offset = ⟨b, off + g.offset, none⟩ := add_at _ _ _
  simp [execOp, h.eq, Instr.fieldAt, run_underlying hu, hi, Instr.sureAddr, fieldPlace, ti.run_sizeOf, hz, ha]⟩
/-- a field of an element of a slice -/
instance StepV.fieldAddr_slot {x : Operand} {j : Nat} [h : Ev f x (slotV E A j)] [r : Rd σ A n c E xs] [l : IdxLt j n] [fd : FO P t i fo ft] [ti : TI P ft agg sz bytes] [p : PosSz sz] : StepV P (.fieldAddr t x i) ty f σ (slotF A (j * E.sz + fo)) := ⟨by
  obtain ⟨fs, g, hu, hi, h1, h2⟩ := fd.h
  subst h1; subst h2
  have hp := p.h
  have hz : ¬ sz = 0 := by omega
  have hl := l.lt
  rcases r.rd with h0 | ⟨b, o, ha, _⟩
  · omega
  subst ha
  simp [execOp, h.eq, slotV, slotF, Instr.fieldAt, run_underlying hu, hi, Instr.sureAddr, fieldPlace, ti.run_sizeOf, hz, add_at, Nat.add_assoc]⟩
instance StepV.fieldAddr_slotF {x : Operand} {j o1 : Nat} [h : Ev f x (slotF A (j * E.sz + o1))] [r : Rd σ A n c E xs] [l : IdxLt j n] [fd : FO P t i fo ft] [ti : TI P ft agg sz bytes] [p : PosSz sz] {o2 : Nat} [q : AddN o1 fo o2] : StepV P (.fieldAddr t x i) ty f σ (slotF A (j * E.sz + o2)) := ⟨by
  obtain ⟨fs, g, hu, hi, h1, h2⟩ := fd.h
  subst h1; subst h2
  have hq := q.h; subst hq
  have hp := p.h
  have hz : ¬ sz = 0 := by omega
  have hl := l.lt
  rcases r.rd with h0 | ⟨b, o, ha, _⟩
  · omega
  subst ha
  simp [execOp, h.eq, slotF, Instr.fieldAt, run_underlying hu, hi, Instr.sureAddr, fieldPlace, ti.run_sizeOf, hz, add_at, Nat.add_assoc]⟩
theorem run_loadVar_base {w : World} {base : Nat} {cs : Array Value} {v : Value} (ti : TI P t agg sz bytes)
    (h : ∀ j, j < sz → w.cell? ⟨b, base + off + j, none⟩ = cs[off + j]?) (l : LoadV cs off sz agg v) : (loadVar t ⟨b, base + off, none⟩).run P w = .ok v w := by
  unfold loadVar
  rw [Sem.run_bind, ti.run_isAgg]
  simp only [Result.andThen_ok]
  cases agg with
  | true =>
    simp only [if_true, Sem.run_bind, ti.run_sizeOf, Result.andThen_ok]
    have hl : ((cs.extract off (off + sz)).toList).length = sz := by have := l.fit; simp; omega
    have hh : ∀ j v, ((cs.extract off (off + sz)).toList)[j]? = some v → w.cell? ((⟨b, base + off, none⟩ : Addr).add j) = some v := by
      intro j v hj
      have hjl : j < sz := by
        have := (List.getElem?_eq_some_iff.1 hj).1; omega
      rw [add_at, h j hjl]
      rw [Array.getElem?_toList, Array.getElem?_extract] at hj
      split at hj
      · exact hj
      · cases hj
    have := run_loadCells_list (P := P) w ⟨b, base + off, none⟩ _ hh
    rw [hl, Array.toArray_toList] at this
    simp only [this, Result.andThen_ok, l.agg_ rfl]
    rfl
  | false =>
    obtain ⟨h1, h2⟩ := l.one rfl
    have := h 0 (by omega)
    simp only [Nat.add_zero] at this
    simp [load, Sem.run, this, h1]
instance StepV.load_slotF [Inhabited α] {x : Operand} {j : Nat} {val : α → Value} {cs : Array Value} {v : Value} [h : Ev f x (slotF A (j * E.sz + fo))] [r : Rd σ A n c E xs] [l : IdxLt j n] [ti : TI P t agg sz bytes] [fv : FlatV E val] [cc : Cells (val xs[j]!) cs] [lv : LoadV cs fo sz agg v] : StepV P (.load t x) ty f σ v := ⟨by
  obtain ⟨b, o, rfl, hc⟩ := r.cells l.lt
  have e1 : (E.val xs[j]!).cells = cs := by rw [fv.eq]; exact cc.eq
  have hfit := lv.fit
  have hsz : cs.size = E.sz := by rw [← e1]; exact E.size _
  have hr := run_loadVar_base (P := P) (w := σ.w) ti (b := b) (base := o + j * E.sz) (off := fo) (cs := cs) (v := v) (fun q hq => by
    have := hc (fo + q) (by omega)
    rw [e1] at this
    rw [Nat.add_assoc]; exact this) lv
  rw [Nat.add_assoc] at hr
  simp only [execOp, h.eq, slotF, Option.map_some, add_at, Instr.loadAt, Instr.sureAddr, Sem.run_bind, Sem.run_pure, Result.andThen_ok, hr]⟩
/-- a struct of which these fields are told -/
class BuildF (P : Program) (t : TypeId) (f : Fr) (cs : Array Value) (ps : List (Nat × Operand)) (cs' : outParam (Array Value)) : Prop where
  h : ∀ (fs : Array Field) (place : Nat → Option (Nat × Nat)), P.underlying t = some (.struct fs) → (∀ (i : Nat) (g : Field) (s : Nat), fs[i]? = some g → (∀ w, (sizeOf g.type).run P w = .ok s w) → place i = some (g.offset, s)) →
    Instr.fill place cs (ps.map fun p => (p.1, evo f p.2)) = some cs'
instance BuildF.nil {cs : Array Value} : BuildF P t f cs [] cs := ⟨fun _ _ _ _ => rfl⟩
theorem fill_one {place : Nat → Option (Nat × Nat)} {cs vs cs' : Array Value} {i o s : Nat} {v : Value} {rest : List (Nat × Value)} (hp : place i = some (o, s)) (hv : v.cells = vs) (hs : vs.size = s) (g : PutV cs o vs cs') : Instr.fill place cs ((i, v) :: rest) = Instr.fill place cs' rest := by
  have hf := g.fit
  simp only [Instr.fill, hp, hv]
  rw [if_neg (by simp [hs]; omega)]
  congr 1
  rw [← g.eq]
  have gen : ∀ (us : List Value) (k : Nat) (a : Array Value), o + k + us.length ≤ a.size → (us.zipIdx k).foldl (fun a (c, j) => a.setIfInBounds (o + j) c) a = (a.toList.take (o + k) ++ us ++ a.toList.drop (o + k + us.length)).toArray := by
    intro us
    induction us with
    | nil => intro k a _; simp
    | cons c us ih =>
      intro k a hle
      rw [List.zipIdx_cons, List.foldl_cons, ih (k + 1) _ (by simp at hle ⊢; omega)]
      have e := list_seg_step a.toList (o + k) c us (by simp at hle ⊢; omega)
      simpa [Array.toList_setIfInBounds, Nat.add_assoc] using congrArg List.toArray e
  have := gen vs.toList 0 cs (by simpa using hf)
  simp only [Nat.add_zero] at this
  rw [← Array.foldl_toList]
  simpa [putCells] using this
instance BuildF.cons {cs vs cs1 cs' : Array Value} {x : Operand} {v : Value} {ps : List (Nat × Operand)} [fd : FO P t i fo ft] [ti : TI P ft agg sz bytes] [h : Ev f x v] [c : Cells v vs] [zE : CSzE vs sz] [p : PutV cs fo vs cs1] [g : BuildF P t f cs1 ps cs'] : BuildF P t f cs ((i, x) :: ps) cs' := ⟨fun fs place hu hp => by
  have z := zE.z
  obtain ⟨fs', gf, hu', hi, h1, h2⟩ := fd.h
  rw [hu] at hu'; injection hu' with hu'; injection hu' with hu'; subst hu'
  subst h1; subst h2
  rw [List.map_cons, fill_one (hp i gf sz hi (fun w => ti.run_sizeOf w)) (by rw [h.eq]; exact c.eq) z.size p]
  exact g.h fs place hu hp⟩
/-- all field types are known -/
class AllTI (P : Program) (t : TypeId) : Prop where
  h : ∃ fs pl, P.underlying t = some (.struct fs) ∧ (∀ w, (fs.mapM (fun (g : Field) => (Prod.mk g.offset <$> sizeOf g.type : Sem (Nat × Nat)))).run P w = .ok pl w) ∧ ∀ (i : Nat) (g : Field), fs[i]? = some g → ∃ s, (∀ w, (sizeOf g.type).run P w = .ok s w) ∧ pl[i]? = some (g.offset, s)
theorem AllTI.mk_ {P : Program} {t : TypeId} {fs : Array Field} (hu : P.underlying t = some (.struct fs)) (hs : ∀ g ∈ fs.toList, ∃ s, ∀ w, (sizeOf g.type).run P w = .ok s w) : AllTI P t := by
  have key : ∀ l : List Field, (∀ g ∈ l, ∃ s, ∀ w, (sizeOf g.type).run P w = .ok s w) → ∃ pl : List (Nat × Nat), (∀ w, (l.mapM (fun (g : Field) => (Prod.mk g.offset <$> sizeOf g.type : Sem (Nat × Nat)))).run P w = .ok pl w) ∧ pl.length = l.length ∧ ∀ (i : Nat) (g : Field), l[i]? = some g → ∃ s, (∀ w, (sizeOf g.type).run P w = .ok s w) ∧ pl[i]? = some (g.offset, s) := by
    intro l
    induction l with
    | nil => intro _; exact ⟨[], fun w => by simp, rfl, by simp⟩
    | cons g l ih =>
      intro h
      obtain ⟨s, hs⟩ := h g (by simp)
      obtain ⟨pl, h1, h2, h3⟩ := ih (fun q hq => h q (by simp [hq]))
      refine ⟨(g.offset, s) :: pl, fun w => ?_, by simp [h2], fun i q hq => ?_⟩
      · simp only [List.mapM_cons, Sem.run_bind, Sem.run_map, hs, Result.andThen_ok, Sem.run_pure, h1]
      · cases i with
        | zero => simp at hq; subst hq; exact ⟨s, hs, rfl⟩
        | succ i => simpa using h3 i q (by simpa using hq)
  obtain ⟨pl, h1, h2, h3⟩ := key fs.toList hs
  refine ⟨fs, pl.toArray, hu, fun w => ?_, fun i g hg => ?_⟩
  · rw [← Array.toArray_toList (xs := fs), List.mapM_toArray]
    simp only [Sem.run_bind, Sem.run_map, h1, Result.andThen_ok, Sem.run_pure]
  · obtain ⟨s, a, b⟩ := h3 i g (by simpa using hg)
    exact ⟨s, a, by simpa using b⟩
instance StepV.build {cs cs' : Array Value} {ps : List (Nat × Operand)} [tz : TZ P t cs] [al : AllTI P t] [g : BuildF P t f cs ps cs'] : StepV P (.build t ps.toArray) ty f σ (.agg cs') := ⟨by
  obtain ⟨i, z, hi, hz, hc⟩ := tz.h
  obtain ⟨fs, pl, hu, hpl, hat⟩ := al.h
  have hf := g.h fs (pl[·]?) hu (fun i g s hg hs => by
    obtain ⟨s', h1, h2⟩ := hat i g hg
    have := (hs σ.w).symm.trans (h1 σ.w)
    injection this with this
    rw [this]; exact h2)
  simp [execOp, Instr.build, zeroValue, typeInfo, hi, hz, hc, run_underlying hu, hpl, hf]⟩
theorem put_in {p c q vs : List Value} {k f : Nat} (hp : p.length = k) (hf : f + vs.length ≤ c.length) :
    (p ++ c ++ q).take (k + f) ++ vs ++ (p ++ c ++ q).drop (k + f + vs.length) = p ++ (c.take f ++ vs ++ c.drop (f + vs.length)) ++ q := by
  subst hp
  rw [List.append_assoc p c q, Nat.add_assoc, List.take_length_add_append, List.drop_length_add_append, List.take_append_of_le_length (by omega), List.drop_append_of_le_length (by omega)]
  simp [List.append_assoc]
/-- a field of an element of a row is written -/
instance Step.store_slotF [Inhabited α] {x y : Operand} {j : Nat} {val : α → Value} {cs vs cs' : Array Value} {v : Value} {w : α} {e : TypeId} {eb : Nat} [h : Ev f x (slotF A (j * E.sz + fo))] [h2 : Ev f y v] [r : Row σ A n c e E xs] [l : IdxLt j n] [eo : ElemOf P e E eb] [ti : TI P t agg sz bytes] [fv : FlatV E val] [cc : Cells (val xs[j]!) cs] [cv : Cells v vs] [czE : CSzE vs sz] [pv : PutV cs fo vs cs'] [en : EncV σ E (.agg cs') w] :
    Step P (.store t x y) ty f σ (fun K _ => ∀ σ' : St, Nx σ σ' (.row A e) → Row σ' A n c e E (xs.set j w) → K undef σ') := ⟨fun K E' hK => by
  have cz := czE.z
  have hl := l.lt
  have hlen := r.len
  have hle := r.le
  rcases r.full with ⟨_, hn⟩ | ⟨b, zs, ea, hh, hzl, hzt, hzok⟩
  · omega
  subst ea
  have e1 : (E.val xs[j]!).cells = cs := by rw [fv.eq]; exact cc.eq
  have hsz : cs.size = E.sz := by rw [← e1]; exact E.size _
  have hw : (E.val w).cells = cs' := by rw [← en.eq]; rfl
  have hpf := pv.fit
  have hxj : zs[j]? = some xs[j]! := by
    have h1 : xs[j]? = some xs[j]! := by rw [getElem!_pos xs j (by omega)]; exact List.getElem?_eq_getElem _
    have h2 : zs[j]? = xs[j]? := by rw [← hzt, List.getElem?_take, if_pos hl]
    rw [h2]; exact h1
  have e0 : E.flat [w] = cs'.toList := by simp [Elem.flat, hw]
  have ecs : E.flat [xs[j]!] = cs.toList := by rw [← e1]; simp [Elem.flat]
  have hz : E.flat zs = E.flat (zs.take j) ++ cs.toList ++ E.flat (zs.drop (j + 1)) := by
    have h3 := (List.take_append_drop j zs).symm
    have h4 : zs.drop j = [xs[j]!] ++ zs.drop (j + 1) := by
      rw [List.drop_eq_getElem_cons (by omega)]
      rw [List.getElem?_eq_getElem (by omega)] at hxj
      injection hxj with hxj
      rw [hxj]; rfl
    rw [h4, ← List.append_assoc] at h3
    have h5 := congrArg E.flat h3
    rw [E.flat_append, E.flat_append, ecs] at h5
    exact h5
  have hl1 : (E.flat (zs.take j)).length = j * E.sz := by rw [E.flat_length]; congr 1; simp; omega
  have hput : PutV (E.flat zs).toArray (j * E.sz + fo) vs (E.flat (zs.take j ++ [w] ++ zs.drop (j + 1))).toArray := by
    refine ⟨by rw [E.flat_size]; have : (j + 1) * E.sz ≤ zs.length * E.sz := Nat.mul_le_mul_right _ (by omega)
               rw [Nat.add_mul] at this; omega, ?_⟩
    apply Array.ext'
    have hpi := put_in (p := E.flat (zs.take j)) (c := cs.toList) (q := E.flat (zs.drop (j + 1))) (vs := vs.toList) (f := fo) hl1 (by simpa using hpf)
    rw [E.flat_append, E.flat_append, e0, ← pv.eq]
    simp only [putCells, List.toList_toArray, hz]
    simpa using hpi
  have hst := run_storeVar_own (P := P) (w := σ.w) ti (b := b) (off := j * E.sz + fo) (v := v) cv cz hh hput
  have hset : zs.take j ++ [w] ++ zs.drop (j + 1) = zs.set j w := by
    rw [List.set_eq_take_append_cons_drop, if_pos (by omega), List.append_assoc]; rfl
  obtain ⟨σ', hw', hnx, hrow⟩ := r.set_ (n' := n) (zs' := zs.take j ++ [w] ++ zs.drop (j + 1)) (ys := xs.set j w) rfl hh (by rw [hset]; simpa using hzl) (by rw [hset, List.take_set, hzt]) hle (fun z' hz' => by
    rw [hset] at hz'
    rcases List.mem_or_eq_of_mem_set hz' with h | rfl
    · exact hzok z' h
    · exact en.ok)
  have hr : (execOp (evo f) ⟨none, .store t x y, ty, "", #[], none⟩).run P σ.w = .ok .skip (σ.w.setRow b (E.flat (zs.take j ++ [w] ++ zs.drop (j + 1))).toArray) := by
    simp [execOp, h.eq, h2.eq, slotF, add_at, Instr.storeAt, Instr.sureAddr, hst]
  unfold OpW; rw [hr]
  exact ⟨σ', hw', hK σ' ⟨hnx⟩ hrow⟩⟩
end
end Go.Proofs.Ythdhnkgnbdociaa
