/- Strings, and bytes that become strings. No condition. -/
import Derived.Test.YthdhnkgnbdociaaRn
import Derived.Test.YthdhnkgnbdociaaEi
import Derived.Laws.Concat
import Derived.Laws.BytesArg
import Derived.Laws.Strings
import Derived.Lib.AppendStr
import Derived.Lib.Builder
import Derived.Lib.UnsafeStr
set_option linter.all false
namespace Go.Proofs.Ythdhnkgnbdociaa
open Go Go.RowKit
abbrev Bs := List UInt8
abbrev sv (l : Bs) : Value := .string ⟨l.toArray⟩
class StrV (v : Value) (l : outParam Bs) : Prop where
  eq : v = .string ⟨l.toArray⟩
instance StrV.mk_ {l : Bs} : StrV (.string ⟨l.toArray⟩) l := ⟨rfl⟩
/-- how long a text is at most -/
class LenLe (l : Bs) (n : outParam Nat) : Prop where
  le : l.length ≤ n
instance (priority := low) LenLe.app {a b : Bs} {n m : Nat} [h : LenLe a n] [g : LenLe b m] : LenLe (a ++ b) (n + m) := ⟨by have := h.le; have := g.le; simp; omega⟩
instance LenLe.nil : LenLe [] 0 := ⟨Nat.le_refl _⟩
instance (priority := low) LenLe.cons {x : UInt8} {l : Bs} {n : Nat} [h : LenLe l n] : LenLe (x :: l) (n + 1) := ⟨by have := h.le; simp; omega⟩
class FitStr (a b : Bs) : Prop where
  le : a.length + b.length ≤ 140737488355328
instance (priority := low) FitStr.of {a b : Bs} {n m : Nat} [h : LenLe a n] [g : LenLe b m] [k : EqB (Nat.ble (n + m) 140737488355328) true] : FitStr a b := ⟨by have := h.le; have := g.le; have := Nat.le_of_ble_eq_true k.eq; omega⟩
section
variable {P : Program} {σ : St} {f : Fr} {ty t : TypeId}
instance StepV.str_add {x y : Operand} {u v : Value} {a b : Bs} [h : Ev f x u] [g : Ev f y v] [s1 : StrV u a] [s2 : StrV v b] [q : FitStr a b] {t2 : TypeId} : StepV P (.binOp .add t x y t2) ty f σ (sv (a ++ b)) := ⟨by
  have e1 := s1.eq; have e2 := s2.eq
  subst e1; subst e2
  have := q.le
  have hr := run_string_add_sum (P := P) σ.w ⟨a.toArray⟩ ⟨b.toArray⟩ (by simp [ByteArray.size]; omega)
  rw [ByteArray.mk_append_mk] at hr
  have hg : (eqGuard .add t x y (sv a) (sv b)).run P σ.w = .ok () σ.w := by simp [eqGuard]
  simp only [sv] at hg
  simp [execOp, h.eq, g.eq, binOp_string_add, hr, hg]⟩
instance StepV.str_len {x : Operand} {u : Value} {a : Bs} [uu : U P t .string] [h : Ev f x u] [s1 : StrV u a] : StepV P (.call { callee := .builtin .len, args := #[x], argTypes := #[t] }) ty f σ (.int .i64 (a.length : Int)) := ⟨by
  have e1 := s1.eq; subst e1
  have hr := run_len_string (P := P) (w := σ.w) t ty ⟨a.toArray⟩ uu.h
  simp [execOp, resolve, h.eq, invoke, builtin, hr, goInt]
  rfl⟩
variable {A : Option Addr} {n c : Nat} {bs : Bs}
theorem Rd.bytes (r : Rd σ A n c u8E bs) (hn : n ≠ 0) : ∃ b o, A = some ⟨b, o, none⟩ ∧ ∀ j x, bs[j]? = some x → σ.w.cell? ⟨b, o + j, none⟩ = some (.int .u8 (x.toNat : Int)) := by
  rcases r.rd with h0 | ⟨b, o, ha, hc⟩
  · exact absurd h0 hn
  · refine ⟨b, o, ha, fun j x hx => hc j _ ?_⟩
    have hj : j < bs.length := (List.getElem?_eq_some_iff.1 hx).1
    have := u8E.flat_get bs j 0 hj (by decide)
    simp only [Nat.mul_one, Nat.add_zero] at this
    rw [this]
    have e : bs[j] = x := (List.getElem?_eq_some_iff.1 hx).2
    rw [e]; rfl
instance StepV.conv_bytes {x : Operand} {src dst e : TypeId} [h : Ev f x (.slice A n c)] [r : Rd σ A n c u8E bs] [us : U P src (.slice e)] [ue : U P e (.int .u8)] [ud : U P dst .string] : StepV P (.convert src dst x) ty f σ (sv bs) := ⟨by
  have hl := r.len
  have hr : (convert src dst (.slice A n c)).run P σ.w = .ok (sv bs) σ.w := by
    by_cases hn : n = 0
    · subst hn
      have hx : bs = [] := List.eq_nil_of_length_eq_zero hl
      subst hx
      cases A with
      | none => rw [run_convert_bytes_nil _ _ _ us.h ue.h _ _ _ ud.h]; rfl
      | some a =>
        rw [run_convert_bytes_string _ _ _ _ _ _ _ us.h ue.h ud.h]
        have := run_bytesToString (P := P) σ.w a 0 c [] (by simp [loadCells, loadCellsFrom])
        exact this
    · obtain ⟨b, o, ha, hc⟩ := r.bytes hn
      subst ha
      have := run_convert_bytes_arg (P := P) σ.w src e us.h ue.h b o n c (bs.map fun x => (x.toNat : Int)) (by simpa using hl) (fun i hi => by
        rw [hc i bs[i]! (by rw [getElem!_pos bs i (by omega)]; exact List.getElem?_eq_getElem _)]
        simp [List.getD, List.getElem?_eq_getElem (show i < bs.length by omega), getElem!_pos bs i (by omega)]) dst ud.h
      rw [this]
      congr 2
      simp [strOfNums, Function.comp_def]
  simp [execOp, h.eq, hr]⟩
instance Rd.own_key {b : Nat} {t0 : TypeId} {k : Key} [h : Own σ b t0 (kc k)] : Rd σ (some ⟨b, 0, none⟩) 32 32 u8E k.toList := ⟨by simp, Nat.le_refl _, by simp [maxLen], fun _ _ => trivial, .inr ⟨b, 0, rfl, fun j v hv => by
  have hj : j < k.toList.length := by
    have := (List.getElem?_eq_some_iff.1 hv).1
    rw [u8E.flat_length] at this; simpa using this
  have e1 := u8E.flat_get k.toList j 0 hj (by decide)
  simp only [Nat.mul_one, Nat.add_zero] at e1
  rw [e1] at hv
  rw [cell_own h.h, Nat.zero_add, kc_get k j (by simpa using hj)]
  rw [← hv]
  simp [Value.cells, u8v]⟩⟩
theorem strCells_flat (l : Bs) : Lib.strCells ⟨l.toArray⟩ = u8E.flat l := by
  unfold Lib.strCells Elem.flat
  simp only
  induction l with
  | nil => rfl
  | cons x l ih => simp [Value.cells] at ih ⊢; exact ih
theorem run_append_str_row {e t ts : TypeId} {xs l : Bs} (r : Row σ A n c e u8E xs) (ut : U P t (.slice e)) (uts : U P ts .string) (eo : ElemOf P e u8E 1) (ze : ZeroE P e u8E 0) (hb : n + l.length ≤ 140737488355328) :
    ∃ σ' A' c', (Builtin.append_ #[t, ts] ty #[.slice A n c, sv l]).run P σ.w = .ok (.slice A' (n + l.length) c') σ'.w ∧ NxP σ σ' (.row A e) ∧ RowNew σ A A' ∧ Row σ' A' (n + l.length) c' e u8E (xs ++ l) := by
  generalize hm : l.length = m at hb
  have hsz8 : (⟨l.toArray⟩ : ByteArray).size = m := by rw [← hm]; simp [ByteArray.size]
  have hsc := strCells_flat l
  have hmx : n + m ≤ maxLen := by simp only [maxLen]; omega
  obtain ⟨d0, i, hd0, hag, hi, hsz, hby⟩ := eo.ti.h
  obtain ⟨i', zv, hi', hz, hzc⟩ := ze.h
  rw [hi] at hi'; injection hi' with hi'; subst hi'
  have hzv : zv.cells = #[.int .u8 0] := hzc
  have hlen : xs.length = n := r.len
  have hlx : (xs ++ l).length = n + m := by simp [hm, hlen]
  have okx : ∀ {σ' : St} (k : Nat), ∀ x ∈ xs ++ l ++ List.replicate k (0 : UInt8), u8E.ok σ' x := fun _ _ _ => trivial
  have grown : ∀ old, old < n + m → ∃ σ', σ'.w = σ.w.drew.alloc (.cells ((u8E.flat xs).toArray ++ (u8E.flat l).toArray ++ Builtin.zeroCells zv.cells (grownCap σ.w (n + m) old e - (n + m))) e) ∧ NxP σ σ' (.row A e) ∧
      RowNew σ A (some ⟨σ.w.heap.size, 0, none⟩) ∧ Row σ' (some ⟨σ.w.heap.size, 0, none⟩) (n + m) (grownCap σ.w (n + m) old e) e u8E (xs ++ l) := by
    intro old ho
    have hge := grownCap_ge σ.w (n + m) old e
    have hcm : grownCap σ.w (n + m) old e ≤ maxLen := grownCap_le_maxLen σ.w (n + m) old e hmx
    obtain ⟨σ1, hw1, hn1⟩ := st_drew σ (σ.w.drawn + 1)
    obtain ⟨σ2, hw2, hn2, hm2, hm2', ho2, hs2⟩ := st_new σ1 (.cells ((u8E.flat xs).toArray ++ (u8E.flat l).toArray ++ Builtin.zeroCells zv.cells (grownCap σ.w (n + m) old e - (n + m))) e) True
    have hz1 : σ1.w.heap.size = σ.w.heap.size := by rw [hw1]
    have hd : σ1.w = σ.w.drew := hw1
    have hn3 : NxP σ σ2 (.row A e) := ⟨hn2.os.trans hn1.os, hn2.tape.trans hn1.tape, hn2.output.trans hn1.output, Nat.le_trans hn1.size hn2.size, fun b hb hb' => (hn2.imm b (by omega) (fun h => hb' (hn1.mm b hb h))).trans (hn1.imm b hb hb'),
      fun b hb h => hn1.mm b hb (hn2.mm b (by omega) h), fun b hb _ => ⟨((hn2.own b (by omega) id).1).trans (hn1.own b hb id).1, fun h => (hn2.own b (by omega) id).2 ((hn1.own b hb id).2 h)⟩, r.typed⟩
    have hfl : (u8E.flat xs).toArray ++ (u8E.flat l).toArray ++ Builtin.zeroCells zv.cells (grownCap σ.w (n + m) old e - (n + m)) = (u8E.flat (xs ++ l ++ List.replicate (grownCap σ.w (n + m) old e - (n + m)) 0)).toArray := by
      rw [zeroCells_flat u8E 0 _ hzc]; simp [Elem.flat_append]
    refine ⟨σ2, by rw [hw2, hd], hn3, ⟨fun a' ha' => ?_⟩, Row.mk_ hlx hge hcm rfl (by rw [hz1] at ho2; rw [ho2, hfl]) (by simp [hlx, hm, hlen]; omega) (by rw [List.take_append_of_le_length (by omega), List.take_of_length_le (by omega)]) (okx _) (by rw [hz1] at hm2; exact hm2.2 trivial)⟩
    injection ha' with ha'; subst ha'; exact .inr (Nat.le_refl _)
  rcases r.full with ⟨ea, hc0⟩ | ⟨b, zs, ea, hh, hzl, hzt, hzok⟩
  · have hle := r.le
    have hn0 : n = 0 := by omega
    subst ea; subst hc0; subst hn0
    have hx0 : xs = [] := List.eq_nil_of_length_eq_zero hlen
    subst hx0
    by_cases hm0 : m = 0
    · subst hm0
      have hy : l = [] := List.eq_nil_of_length_eq_zero hm
      subst hy
      refine ⟨σ, none, 0, ?_, ⟨rfl, rfl, rfl, Nat.le_refl _, fun _ _ _ => rfl, fun _ _ h => h, fun _ _ _ => ⟨rfl, id⟩, nofun⟩, ⟨nofun⟩, ⟨rfl, by simp, Nat.le_refl _, r.max, .inl ⟨rfl, rfl⟩, nofun⟩⟩
      have hf := Lib.run_firstCells_string (P := P) σ.w i.size ⟨#[]⟩
      have e0 : (⟨#[]⟩ : ByteArray).size = 0 := rfl
      rw [e0] at hf
      simp [Builtin.append_, run_underlying ut.h, run_underlying uts.h, sizeOf, typeInfo, hi, Builtin.lenOf, e0, hf]
    · have hr := run_append_nil_string (P := P) σ.w t ts ty e i zv ut.h uts.h hi hz ⟨l.toArray⟩ (by omega) (by omega) (by rw [hby]; omega)
      obtain ⟨σ', hw, hn, hrn, hrow⟩ := grown 0 (by omega)
      have e1 : (l.toArray.map fun b => Value.int .u8 b.toNat) = (u8E.flat l).toArray := by
        rw [← hsc]
        apply Array.ext'
        simp [Lib.strCells]
      simp only [hsz8, e1] at hr
      simp only [Nat.zero_add, List.nil_append, Elem.flat_nil, Array.empty_append] at hw hrow hr ⊢
      refine ⟨σ', _, _, ?_, hn, hrn, hrow⟩
      rw [hw]
      exact hr
  · subst ea
    have hle := r.le
    have hfx : u8E.flat xs = (u8E.flat zs).take (n * 1) := by rw [← hzt]; exact (u8E.flat_take zs n).symm
    by_cases hroom : n + m ≤ c
    · have hsplice := flat_splice u8E zs l n (by omega)
      obtain ⟨σ', hw, hn, hrow⟩ := r.set_ (n' := n + m) (zs' := zs.take n ++ l ++ zs.drop (n + l.length)) (ys := xs ++ l) rfl hh (by simp; omega)
        (by rw [List.take_append_of_le_length (by simp [hm]; omega), List.take_of_length_le (by simp [hm]; omega), ← hzt]) hroom (fun _ _ => trivial)
      refine ⟨σ', _, _, ?_, hn, ⟨fun a' ha' => .inl ⟨a', ha', rfl⟩⟩, hrow⟩
      rw [hw, ← hsplice]
      have hr := Lib.run_append_room_string (P := P) σ.w t ts ty e i ut.h uts.h hi hsz b n c (u8E.flat zs).toArray hh ⟨l.toArray⟩ (by rw [hsz8]; exact hroom) (by rw [hsz8, u8E.flat_size, hzl, show u8E.sz = 1 from rfl]; omega)
      rw [hsz8, hsc] at hr
      have e2 : (u8E.flat l).length = m := by rw [u8E.flat_length, hm, show u8E.sz = 1 from rfl]; omega
      rw [e2]
      simpa using hr
    · have holds : ∀ j v, (u8E.flat xs)[j]? = some v → σ.w.cell? ((⟨b, 0, none⟩ : Addr).add j) = some v := by
        intro j v hv
        rw [add_at, Nat.zero_add, cell_own hh]
        rw [hfx, List.getElem?_take] at hv
        split at hv
        · simpa using hv
        · cases hv
      have hr := Lib.run_append_grow_string (P := P) σ.w t ts ty e i zv ut.h uts.h hi hz ⟨b, 0, none⟩ n c (u8E.flat xs) (by rw [u8E.flat_length, hsz, hlen]) holds ⟨l.toArray⟩ (by omega) (by omega) (by rw [hby]; exact growslice_fits (by omega) (by omega))
      rw [hsz8, hsc] at hr
      obtain ⟨σ', hw, hn, hrn, hrow⟩ := grown c (by omega)
      exact ⟨σ', _, _, by rw [hw]; exact hr, hn, hrn, hrow⟩
instance Step.append_str {e t ts : TypeId} {xs l : Bs} {x y : Operand} {v : Value} [h : Ev f x (.slice A n c)] [g : Ev f y v] [s1 : StrV v l] [rq : RowQ σ A n c e u8E xs] [ut : U P t (.slice e)] [uts : U P ts .string] [eo : ElemOf P e u8E 1] [ze : ZeroE P e u8E 0] :
    Step P (.call { callee := .builtin .append, args := #[x, y], argTypes := #[t, ts] }) ty f σ
      (fun K _ => (n + l.length ≤ 140737488355328) ∧ ∀ (σ' : St) (A' : Option Addr) (c' : Nat), Nx σ σ' (.row A e) → RowNew σ A A' → Row σ' A' (n + l.length) c' e u8E (xs ++ l) → K (.slice A' (n + l.length) c') σ') := ⟨fun K E' hK => by
  have e1 := s1.eq; subst e1
  obtain ⟨hb, hK⟩ := hK
  obtain ⟨σ', A', c', hrun, hn, hrn, hrow⟩ := run_append_str_row (ty := ty) rq.row ut uts eo ze hb
  have hr : (execOp (evo f) ⟨none, .call { callee := .builtin .append, args := #[x, y], argTypes := #[t, ts] }, ty, "", #[], none⟩).run P σ.w = .ok (.value (.slice A' (n + l.length) c')) σ'.w := by
    simp only [sv] at hrun
    simp [execOp, resolve, h.eq, g.eq, invoke, builtin, hrun]
  unfold OpW; rw [hr]
  exact ⟨σ', rfl, hK σ' A' c' ⟨hn⟩ hrn hrow⟩⟩
/-! pointers: nil, unsafe, what lies behind a slice -/
theorem run_eq_nil (w : World) {tp e : TypeId} (u : U P tp (.pointer e)) (a : Option Addr) : (binOp .eql tp (.pointer a) (.pointer none)).run P w = .ok (.bool a.isNone) w := by
  have h : ∀ d : Nat, (Op.equalIn (d + 1) tp (.pointer a) (.pointer none)).run P w = .ok a.isNone w := fun d => by
    cases a <;> simp [Op.equalIn, run_underlying u.h]
  simp only [binOp]
  simp [Op.equal, Op.maxDepth, h 9999]
instance StepV.ptr_eq_nil {x : Operand} {t t2 e : TypeId} {a : Option Addr} [h : Ev f x (.pointer a)] [u : U P t (.pointer e)] : StepV P (.binOp .eql t x (.const (.pointer none)) t2) ty f σ (.bool a.isNone) := ⟨by
  have hr := run_eq_nil σ.w u a
  have hg : (eqGuard .eql t x (.const (.pointer none)) (.pointer a) (.pointer none)).run P σ.w = .ok () σ.w := by simp [eqGuard, program, Sem.run]
  have e2 : evo f (.const (.pointer none)) = .pointer none := rfl
  simp [execOp, h.eq, e2, hr, hg]⟩
instance StepV.ptr_neq_same {x y : Operand} {t t2 e : TypeId} {a : Addr} {agg : Bool} {sz bytes : Nat} [h : Ev f x (.pointer (some a))] [g : Ev f y (.pointer (some a))] [u : U P t (.pointer e)] [ti : TI P e agg sz bytes] : StepV P (.binOp .neq t x y t2) ty f σ (.bool false) := ⟨by
  obtain ⟨d, i, _, _, hi, _, _⟩ := ti.h
  have hr := Lib.run_neq_ptr_same (P := P) σ.w (j := i) a u.h hi
  have hg : (eqGuard .neq t x y (.pointer (some a)) (.pointer (some a))).run P σ.w = .ok () σ.w := by simp [eqGuard, program, Sem.run]
  simp [execOp, h.eq, g.eq, hr, hg]⟩
/-- where a pointer stands: a variable of a call's own -/
instance StepV.to_unsafe {x : Operand} {src dst t0 tt : TypeId} {b : Nat} {cs : Array Value} {agg : Bool} {sz bytes m : Nat} [h : Ev f x (.pointer (some ⟨b, 0, none⟩))] [us : U P src (.pointer tt)] [ud : U P dst .unsafePointer] [ti : TI P tt agg sz bytes] [ps : PosSz sz] [o : Own σ b t0 cs] [cz : CSz cs m] [pm : PosSz m] :
    StepV P (.convert src dst x) ty f σ (.pointer (some ⟨b, 0, none⟩)) := ⟨by
  obtain ⟨d, i, _, _, hi, hs, _⟩ := ti.h
  have hr := Lib.run_to_unsafe (P := P) σ.w (src := src) (dst := dst) (t := tt) (j := i) (e := t0) (cells := cs.size) ⟨b, 0, none⟩ us.h ud.h hi (by have := ps.h; omega) (by simp [World.shape?, o.h]) (by have := pm.h; have := cz.size; simp only; omega)
  simp [execOp, h.eq, hr]⟩
class Lies (P : Program) (e u : TypeId) (m : outParam Nat) : Prop where
  h : liesAt P P.depth e (m / P.cellsOf e) 0 u 1 = true
instance StepV.from_unsafe {x : Operand} {src dst t0 tt : TypeId} {b : Nat} {cs : Array Value} {agg : Bool} {sz bytes m : Nat} [h : Ev f x (.pointer (some ⟨b, 0, none⟩))] [us : U P src .unsafePointer] [ud : U P dst (.pointer tt)] [ti : TI P tt agg sz bytes] [o : Own σ b t0 cs] [cz : CSz cs m] {m2 : Nat} [ls : Lies P t0 tt m2] [em : EqB (Nat.beq m m2) true] :
    StepV P (.convert src dst x) ty f σ (.pointer (some ⟨b, 0, none⟩)) := ⟨by
  obtain ⟨d, i, _, _, hi, hs, _⟩ := ti.h
  have hr := Lib.run_from_unsafe (P := P) σ.w (src := src) (dst := dst) (u := tt) (j := i) (e := t0) (cells := cs.size) ⟨b, 0, none⟩ us.h ud.h hi (by simp [World.shape?, o.h]) (by rw [cz.size, Nat.eq_of_beq_eq_true em.eq]; exact ls.h)
  simp [execOp, h.eq, hr]⟩
/-- what lies behind a slice -/
instance StepV.slice_data {x : Operand} {t e : TypeId} {xs : Bs} [h : Ev f x (.slice A n c)] [r : Row σ A n c e u8E xs] [p : PosN n] : StepV P (.call { callee := .builtin .unsafeSliceData, args := #[x], argTypes := #[t] }) ty f σ (.pointer A) := ⟨by
  have hp := p.pos
  have hle := r.le
  rcases r.full with ⟨_, hc⟩ | ⟨b, zs, ea, _⟩
  · omega
  · subst ea
    have hr := Lib.run_unsafeSliceData_row (P := P) σ.w #[t] ty ⟨b, 0, none⟩ n c (by omega)
    simp [execOp, resolve, h.eq, invoke, builtin, hr]⟩
/-- the bytes of a row become a text, and are written no more -/
instance Step.unsafe_string {x y : Operand} {t t2 e : TypeId} {j : Int} {xs : Bs} [h : Ev f x (.pointer A)] [g : Ev f y (.int .i64 j)] [q : ToNat j n] [r : Row σ A n c e u8E xs] [p : PosN n] [u : U P t (.pointer e)] [eo : ElemOf P e u8E 1] :
    Step P (.call { callee := .builtin .unsafeString, args := #[x, y], argTypes := #[t, t2] }) ty f σ (fun K _ => ∀ σ', Nx σ σ' (.row A e) → K (sv xs) σ') := ⟨fun K E hK => by
  have hp := p.pos
  have hle := r.le
  have hlen := r.len
  have hmx := r.max
  have hq := q.eq
  rcases r.full with ⟨_, hc⟩ | ⟨b, zs, ea, hh, hzl, hzt, hzok⟩
  · omega
  subst ea
  subst hq
  obtain ⟨d0, i, hd0, hag, hi, hsz, hby⟩ := eo.ti.h
  have hcell : P.cellsOf e = 1 := by simp [Program.cellsOf, hi, hsz]
  have hcs : (u8E.flat zs).toArray.size = c := by rw [u8E.flat_size, hzl, show u8E.sz = 1 from rfl]; omega
  have hfx : u8E.flat xs = (u8E.flat zs).take (n * 1) := by rw [← hzt]; exact (u8E.flat_take zs n).symm
  have hr := Lib.run_unsafeString_row (P := P) σ.w t t2 ty e u.h hcell b c (by simp [World.shape?, hh, hcs]) xs (fun e => by subst e; simp at hlen; omega) (by omega) (by simp only [maxLen] at hmx; omega) (fun j x hx => by
    rw [add_at, Nat.zero_add, cell_own hh]
    have hj : j < xs.length := (List.getElem?_eq_some_iff.1 hx).1
    have e1 := u8E.flat_get xs j 0 hj (by decide)
    simp only [Nat.mul_one, Nat.add_zero] at e1
    have e3 : xs[j] = x := (List.getElem?_eq_some_iff.1 hx).2
    rw [e3, hfx, List.getElem?_take, if_pos (by omega)] at e1
    simpa [Value.cells] using e1)
  rw [hlen] at hr
  have hrun : (execOp (evo f) ⟨none, .call { callee := .builtin .unsafeString, args := #[x, y], argTypes := #[t, t2] }, ty, "", #[], none⟩).run P σ.w = .ok (.value (sv xs)) (σ.w.freeze ⟨b, 0, none⟩ n) := by
    simp [execOp, resolve, h.eq, g.eq, invoke, builtin, hr]
  unfold OpW; rw [hrun]
  have hfr : ∀ k, k ≠ b → (σ.w.freeze ⟨b, 0, none⟩ n).heap[k]? = σ.w.heap[k]? := fun k hk => by
    unfold World.freeze
    split
    · rfl
    · simp only [Array.getElem?_modify]; rw [if_neg (Ne.symm hk)]
  have hsize : (σ.w.freeze ⟨b, 0, none⟩ n).heap.size = σ.w.heap.size := by unfold World.freeze; split <;> simp
  have hmb : σ.M b := r.m _ rfl
  have hos : (σ.w.freeze ⟨b, 0, none⟩ n).os = σ.w.os ∧ (σ.w.freeze ⟨b, 0, none⟩ n).tape = σ.w.tape ∧ (σ.w.freeze ⟨b, 0, none⟩ n).output = σ.w.output := by unfold World.freeze; split <;> exact ⟨rfl, rfl, rfl⟩
  refine ⟨⟨σ.w.freeze ⟨b, 0, none⟩ n, σ.M, fun k hk => by rw [hsize]; exact σ.wf k hk⟩, rfl, hK _ ⟨⟨hos.1, hos.2.1, hos.2.2, by simp only; omega, fun k _ hk => hfr k (fun e => by subst e; exact hk hmb), fun _ _ h => h, fun k _ hk => ⟨hfr k (fun e => hk ⟨_, rfl, e.symm⟩), id⟩, r.typed⟩⟩⟩⟩
end
end Go.Proofs.Ythdhnkgnbdociaa
