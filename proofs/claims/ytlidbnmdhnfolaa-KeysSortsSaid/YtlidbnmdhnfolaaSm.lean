/- The engine, part 5: slices that are made, written, appended to, copied into. No condition. -/
import Derived.Test.YtlidbnmdhnfolaaSl
set_option linter.all false
namespace Go.Proofs.Ytlidbnmdhnfolaa
open Go Go.RowKit

section
variable {α : Type} (E : Elem α)
theorem flat_replicate_get (z : α) (n : Nat) : ∀ j, j < n * E.sz → (E.flat (List.replicate n z))[j]? = (E.val z).cells[j % E.sz]? := by
  intro j hj
  have h1 : j / E.sz < n := Nat.div_lt_of_lt_mul (by rw [Nat.mul_comm]; exact hj)
  have h2 : j % E.sz < E.sz := Nat.mod_lt _ E.pos
  have := E.flat_get (List.replicate n z) (j / E.sz) (j % E.sz) (by simpa using h1) h2
  rw [Nat.mul_comm, Nat.div_add_mod] at this
  simpa using this
theorem madeCells_flat (z : α) (n : Nat) {cs : Array Value} (h : cs = (E.val z).cells) : (madeCells cs (n * E.sz)).toList = E.flat (List.replicate n z) := by
  subst h
  apply List.ext_getElem?
  intro j
  by_cases hj : j < n * E.sz
  · rw [flat_replicate_get E z n j hj]
    have h2 : j % E.sz < (E.val z).cells.size := by rw [E.size]; exact Nat.mod_lt _ E.pos
    simp [madeCells, hj, E.size, h2]
    rw [Array.getElem?_eq_getElem h2]
    exact congrArg some (getElem!_pos (E.val z).cells (j % E.sz) h2)
  · rw [List.getElem?_eq_none (by simp [size_madeCells]; omega), List.getElem?_eq_none (by rw [E.flat_length]; simp; omega)]
theorem fill_parts (sz : Nat) : ∀ (vs : List Value) (k : Nat) (cells : Array Value), (∀ v ∈ vs, v.cells.size = sz) → (k + vs.length) * sz ≤ cells.size →
    Instr.fill (fun i => some (i * sz, sz)) cells (vs.zipIdx k |>.map fun (v, i) => (i, v)) = some (cells.toList.take (k * sz) ++ vs.flatMap (fun v => v.cells.toList) ++ cells.toList.drop ((k + vs.length) * sz)).toArray
  | [], k, cells, _, h => by simp [Instr.fill]
  | v :: vs, k, cells, h, hl => by
    have hv := h v (by simp)
    have hl' : (k + 1 + vs.length) * sz ≤ cells.size := by rw [List.length_cons] at hl; rwa [Nat.add_right_comm, Nat.add_assoc]
    have hk1 : k * sz + sz = (k + 1) * sz := by rw [Nat.add_mul]; omega
    have hk2 : (k + 1) * sz ≤ (k + 1 + vs.length) * sz := Nat.mul_le_mul_right _ (by omega)
    have key : ∀ (cs : List Value) (off : Nat) (a : Array Value), off + cs.length ≤ a.size → (cs.zipIdx.foldl (fun a (c, j) => a.setIfInBounds (off + j) c) a) = (a.toList.take off ++ cs ++ a.toList.drop (off + cs.length)).toArray := by
      intro cs off a hle
      have gen : ∀ (cs : List Value) (i : Nat) (a : Array Value), off + i + cs.length ≤ a.size → (cs.zipIdx i).foldl (fun a (c, j) => a.setIfInBounds (off + j) c) a = (a.toList.take (off + i) ++ cs ++ a.toList.drop (off + i + cs.length)).toArray := by
        intro cs
        induction cs with
        | nil => intro i a _; simp
        | cons c cs ih =>
          intro i a hle
          rw [List.zipIdx_cons, List.foldl_cons, ih (i + 1) _ (by simp at hle ⊢; omega)]
          have e := list_seg_step a.toList (off + i) c cs (by simp at hle ⊢; omega)
          simpa [Array.toList_setIfInBounds, Nat.add_assoc] using congrArg List.toArray e
      have := gen cs 0 a (by simpa using hle)
      simpa using this
    have hs := key v.cells.toList (k * sz) cells (by simp [hv]; omega)
    simp only [List.zipIdx_cons, List.map_cons, Instr.fill, hv]
    rw [if_neg (by simp; omega)]
    have e2 : v.cells.zipIdx.foldl (fun cs (c, j) => cs.setIfInBounds (k * sz + j) c) cells = (cells.toList.take (k * sz) ++ v.cells.toList ++ cells.toList.drop (k * sz + v.cells.toList.length)).toArray := by
      rw [← hs, ← Array.foldl_toList]; simp
    rw [e2, fill_parts sz vs (k + 1) _ (fun u hu => h u (by simp [hu])) (by simp [hv]; omega)]
    congr 2
    have hlen : v.cells.toList.length = sz := by simpa using hv
    have hlt : (cells.toList.take (k * sz)).length = k * sz := by simp; omega
    simp only [List.toList_toArray, hlen, hk1, List.flatMap_cons, List.length_cons]
    rw [List.take_append_of_le_length (by simp [hlen]; omega), List.take_of_length_le (by simp [hlen]; omega)]
    rw [List.drop_append, List.drop_eq_nil_of_le («as» := cells.toList.take (k * sz) ++ v.cells.toList) (by simp [hlen]; omega)]
    have : (cells.toList.take (k * sz) ++ v.cells.toList).length = (k + 1) * sz := by simp [hlen]; omega
    rw [this, List.drop_drop]
    have e3 : (k + 1) * sz + ((k + 1 + vs.length) * sz - (k + 1) * sz) = (k + (vs.length + 1)) * sz := by
      rw [show k + (vs.length + 1) = k + 1 + vs.length by omega]; omega
    rw [e3]; simp
end

section
variable {P : Program} {f : Fr} {σ σ' : St} {ty : TypeId} {A B : Option Addr} {n m c d : Nat} {α : Type} {E : Elem α} {xs ys : List α} {t t' e : TypeId} {bytes : Nat}

theorem SL.cut_ {l u : Nat} (h : SL σ A n c E xs) (h1 : l ≤ u) (h2 : u ≤ n) : SL σ (cutA E A l u c) (u - l) (c - l) E ((xs.drop l).take (u - l)) := by
  have hl := h.len; have hm := h.max; have hc := h.le
  refine ⟨by simp; omega, by omega, by omega, fun x hx => h.ok x (List.mem_of_mem_drop (List.mem_of_mem_take hx)), ?_⟩
  by_cases hul : u - l = 0
  · exact .inl hul
  · refine .inr ?_
    rcases h.rd with h0 | ⟨b, o, ha, hb, hlt, hc⟩
    · omega
    · unfold cutA
      rw [if_neg (by omega)]
      refine ⟨b, o + l * E.sz, by rw [ha]; simp [add_at], hb, hlt, fun j v hj => ?_⟩
      rw [← E.flat_take, List.getElem?_take] at hj
      split at hj
      · rw [← E.flat_drop, List.getElem?_drop] at hj
        rw [Nat.add_assoc]; exact hc _ _ hj
      · cases hj
instance SL.cut {l u : Nat} [h : SL σ A n c E xs] [a1 : LeN l u] [a2 : LeN u n] : SL σ (cutA E A l u c) (u - l) (c - l) E ((xs.drop l).take (u - l)) := h.cut_ a1.le a2.le

/-- the world behind an append or a make, as a state -/
theorem st_grown {A' : Option Addr} {w' : World} {n' c' : Nat} (hm : ∀ a, A = some a → σ.M a.block) (hty : ∀ a, A = some a → ∃ cs fz, σ.w.heap[a.block]? = some (.cells cs t fz))
    (hg : σ.w.grownBy w' (Value.ownBlock (.slice A n c))) (hz : ∀ a, A' = some a → a.block < w'.heap.size) (hat : (Value.slice A' n' c').ownBlock = (Value.slice A n c).ownBlock ∨ (Value.slice A' n' c').ownBlock = some σ.w.heap.size) :
    ∃ σ' : St, σ'.w = w' ∧ NxP σ σ' (.row A t) ∧ (∀ a, A' = some a → σ'.M a.block) ∧ RowNew σ A A' := by
  have hob : ∀ (B : Option Addr) (x y : Nat), (Value.slice B x y).ownBlock = B.map (·.block) := fun B x y => by cases B <;> rfl
  simp only [hob] at hg hat
  have hwf : ∀ b, (σ.M b ∨ ∃ a, A' = some a ∧ a.block = b) → b < w'.heap.size := by
    rintro b (h | ⟨a, ha, rfl⟩)
    · exact Nat.lt_of_lt_of_le (σ.wf b h) hg.size
    · exact hz a ha
  have hin : ∀ a, A' = some a → (∃ a0, A = some a0 ∧ a0.block = a.block) ∨ a.block = σ.w.heap.size := by
    intro a ha
    rw [ha] at hat
    rcases hat with e | e
    · cases hA : A with
      | none => rw [hA] at e; cases e
      | some a0 => rw [hA] at e; simp at e; exact .inl ⟨a0, rfl, e.symm⟩
    · simp at e; exact .inr e
  refine ⟨⟨w', fun b => σ.M b ∨ ∃ a, A' = some a ∧ a.block = b, hwf⟩, rfl, ⟨hg.os, hg.tape, hg.output, hg.size, fun b hb hnm => hg.block b hb (fun e => ?_), ?_, fun b hb hx => ⟨hg.block b hb (fun e => hx ?_), fun h => .inl h⟩, nofun, ?_, nofun⟩, fun a ha => .inr ⟨a, ha, rfl⟩, ⟨fun a' ha' => ?_⟩⟩
  · cases hA : A with
    | none => rw [hA] at e; cases e
    | some a0 => rw [hA] at e; simp at e; subst e; exact hnm (hm a0 hA)
  · rintro b hb (h | ⟨a, ha, rfl⟩)
    · exact h
    · rcases hin a ha with ⟨a0, h0, e⟩ | e
      · rw [← e]; exact hm a0 h0
      · omega
  · cases hA : A with
    | none => rw [hA] at e; cases e
    | some a0 => rw [hA] at e; simp at e; exact ⟨a0, rfl, e.symm⟩
  · intro A2 t2 e a ha
    injection e with e1 e2
    subst e1; subst e2
    exact hty a ha
  · rcases hin a' ha' with h | h
    · exact .inl h
    · exact .inr (by omega)

theorem Row.of_own {A' : Option Addr} {n' c' : Nat} (hl : xs.length = n') (hok : ∀ x ∈ xs, E.ok x) (ho : σ.w.ownsRow 0 t E.sz (.slice A' n' c') n' (E.flat xs)) (hm : ∀ a, A' = some a → σ.M a.block) : Row σ A' n' c' t E xs := ⟨hl, hok, ho, hm⟩
theorem own_form {w : World} {v : Value} {n : Nat} {xs : List Value} {sz : Nat} (h : w.ownsRow 0 t sz v n xs) : ∃ A c, v = .slice A n c ∧ ∀ a, A = some a → a.block < w.heap.size := by
  rcases h.2 with ⟨e, hn⟩ | ⟨g, cap, cur, e, _, hh, _⟩
  · exact ⟨none, 0, by rw [e, hn], nofun⟩
  · refine ⟨_, _, e, fun a ha => ?_⟩
    injection ha with ha; subst ha
    rcases Nat.lt_or_ge g w.heap.size with h | h
    · exact h
    · rw [Array.getElem?_eq_none h] at hh; cases hh

/-- append of a slice to a row of the call's own -/
instance Step.append {z : α} {x y : Operand} [h : Ev f x (.slice A n c)] [g : Ev f y (.slice B m d)] [r : Row σ A n c e E xs] [s : Rd σ B m d E ys] [u : U P t (.slice e)] [eo : ElemOf P e E bytes] [ze : ZeroE P e E z] :
    Step P (.call { callee := .builtin .append, args := #[x, y], argTypes := #[t, t] }) ty f σ
      (fun K _ => ((n + m) * bytes ≤ 140737488355328 ∧ n + m ≤ 9223372036854775807) ∧ ∀ (σ' : St) (A' : Option Addr) (c' : Nat), Nx σ σ' (.row A e) → RowNew σ A A' → Row σ' A' (n + m) c' e E (xs ++ ys) → K (.slice A' (n + m) c') σ') := ⟨fun K E' hK => by
  obtain ⟨⟨hb, hmx0⟩, hK⟩ := hK
  have hmx : n + m ≤ maxLen := by simp only [maxLen]; omega
  obtain ⟨d0, i, hd0, hag, hi, hsz, hby⟩ := eo.ti.h
  obtain ⟨i', zv, hi', hz, hzc⟩ := ze.h
  rw [hi] at hi'; injection hi' with hi'; subst hi'
  have hlen : xs.length = n := r.len
  have hl2 : ys.length = m := s.len
  have key : ∃ v' w', (Builtin.append_ #[t, t] ty #[.slice A n c, .slice B m d]).run P σ.w = .ok v' w' ∧ w'.ownsRow 0 e E.sz v' (n + m) (E.flat xs ++ E.flat ys) ∧ σ.w.grownBy w' (Value.ownBlock (.slice A n c)) ∧
      (v'.ownBlock = (Value.slice A n c).ownBlock ∨ v'.ownBlock = some σ.w.heap.size) := by
    cases B with
    | none =>
      have hm0 : m = 0 := by rcases s.rd with h0 | ⟨b, o, ha, _⟩; exact h0; cases ha
      subst hm0
      have hy : ys = [] := List.eq_nil_of_length_eq_zero hl2
      subst hy
      have ho := r.own
      refine ⟨.slice A n c, σ.w, ?_, by simpa [Elem.flat] using ho, World.grownBy.refl _ _, .inl rfl⟩
      rcases ho.2 with ⟨e1, hn⟩ | ⟨g, cap, cur, e1, _, hh, hnc, _⟩
      · injection e1 with ea en ec; subst ea; subst ec; subst en
        simp [Builtin.append_, run_underlying u.h, sizeOf, typeInfo, hi, Builtin.lenOf, Builtin.firstCells]
      · injection e1 with ea en ec; subst ea; subst ec
        simp [Builtin.append_, run_underlying u.h, sizeOf, typeInfo, hi, Builtin.lenOf, Builtin.firstCells, hnc, storeCells]
    | some ad =>
      have hcells : ∀ j u, (E.flat ys)[j]? = some u → σ.w.cell? (ad.add j) = some u := by
        intro j u hu
        rcases s.rd with h0 | ⟨b, o, ha, hc⟩
        · subst h0
          have hy : ys = [] := List.eq_nil_of_length_eq_zero hl2
          subst hy
          simp [Elem.flat] at hu
        · injection ha with ha; subst ha
          rw [add_at]; exact hc j u hu
      obtain ⟨v', w', h1, h2, h3, _, h5⟩ := run_append_own_at (P := P) σ.w 0 t ty e i zv E.sz bytes u.h hi hz hsz hby (by rw [hzc, E.size]) E.pos (.slice A n c) n (E.flat xs) r.own ad m d (E.flat ys) (by rw [E.flat_length, hl2]) hcells (E.flat_one) hmx hb (Nat.zero_le _)
      exact ⟨v', w', h1, h2, h3, h5⟩
  obtain ⟨v', w', hrun, ho, hg, hat⟩ := key
  obtain ⟨A', c', rfl, hlt⟩ := own_form ho
  obtain ⟨σ', hw, hn, hm', hrn⟩ := st_grown (t := e) r.m r.typed hg hlt hat
  have hr : (execOp (evo f) ⟨none, .call { callee := .builtin .append, args := #[x, y], argTypes := #[t, t] }, ty, "", #[], none⟩).run P σ.w = .ok (.value (.slice A' (n + m) c')) w' := by
    simp [execOp, resolve, h.eq, g.eq, invoke, builtin, hrun]
  unfold OpW; rw [hr]
  refine ⟨σ', hw, hK σ' A' c' ⟨hn⟩ hrn (Row.of_own (by simp [hlen, hl2]) (fun x hx => ?_) (by rw [hw, E.flat_append]; exact ho) hm')⟩
  rcases List.mem_append.1 hx with hx | hx
  · exact r.ok x hx
  · exact s.ok x hx⟩

/-- make([]T, n) -/
instance Step.make {z : α} {x y : Operand} {k k' : IntKind} {j : Int} [h : Ev f x (.int k j)] [g : Ev f y (.int k' j)] [q : ToNat j n] [u : U P t (.slice e)] [eo : ElemOf P e E bytes] [ze : ZeroE P e E z] :
    Step P (.makeSlice t x y) ty f σ
      (fun K _ => (n * bytes ≤ 140737488355328 ∧ n ≤ 9223372036854775807) ∧ ∀ (σ' : St) (A' : Option Addr), Nx σ σ' .no → RowNew σ none A' → Row σ' A' n n e E (List.replicate n z) → K (.slice A' n n) σ') := ⟨fun K E' hK => by
  obtain ⟨⟨hb, hmx0⟩, hK⟩ := hK
  have hmx : n ≤ maxLen := by simp only [maxLen]; omega
  obtain ⟨d0, i, hd0, hag, hi, hsz, hby⟩ := eo.ti.h
  obtain ⟨i', zv, hi', hz, hzc⟩ := ze.h
  rw [hi] at hi'; injection hi' with hi'; subst hi'
  have hj := q.eq
  subst hj
  have h63 : (n : Int) ≤ 9223372036854775807 := by
    have hm' := hmx
    simp only [maxLen] at hm'
    omega
  have hbb : (i.bytes : Int) * (n : Int) ≤ 281474976710656 := by
    rw [hby, ← Int.natCast_mul, Nat.mul_comm]; omega
  have hrun := run_make (P := P) σ.w t e i zv u.h hi hz k k' (n : Int) (n : Int) (by omega) (Int.le_refl _) hbb h63
  simp only [Int.toNat_natCast, hsz] at hrun
  obtain ⟨σ', hw, hn, hm, _, ho, hs⟩ := st_new σ (.cells (madeCells zv.cells (n * E.sz)) e) True
  have hr : (execOp (evo f) ⟨none, .makeSlice t x y, ty, "", #[], none⟩).run P σ.w = .ok (.value (.slice (some ⟨σ.w.heap.size, 0, none⟩) n n)) (σ.w.alloc (.cells (madeCells zv.cells (n * E.sz)) e)) := by
    simp [execOp, h.eq, g.eq, hrun]
  unfold OpW; rw [hr]
  have hfl := madeCells_flat E z n hzc
  refine ⟨σ', hw, hK σ' _ ⟨hn⟩ ⟨fun a' ha' => ?_⟩ (Row.of_own (by simp) (fun x hx => by rw [(List.mem_replicate.1 hx).2]; exact ze.ok) ⟨by rw [E.flat_length]; simp, .inr ⟨σ.w.heap.size, n, _, rfl, Nat.zero_le _, ho, Nat.le_refl _, hmx, by simp [size_madeCells], ?_⟩⟩ (fun a ha => ?_))⟩
  · injection ha' with ha'; subst ha'; exact .inr (Nat.le_refl _)
  · rw [hfl, List.take_of_length_le (by rw [E.flat_length]; simp)]
  · injection ha with ha; subst ha; exact hm.2 trivial⟩

class SmallE {α : Type} (E : Elem α) : Prop where
  le : E.sz ≤ 1000
class LenV (vs : List Value) (n : outParam Nat) : Prop where
  eq : vs.length = n
instance LenV.nil : LenV [] 0 := ⟨rfl⟩
instance LenV.one {a : Value} : LenV [a] 1 := ⟨rfl⟩
instance LenV.two {a b : Value} : LenV [a, b] 2 := ⟨rfl⟩
instance LenV.three {a b c : Value} : LenV [a, b, c] 3 := ⟨rfl⟩
instance LenV.four {a b c d : Value} : LenV [a, b, c, d] 4 := ⟨rfl⟩
/-- a literal, all elements told -/
class PartsL (f : Fr) (k : Nat) (ps : List (Nat × Operand)) (vs : outParam (List Value)) : Prop where
  eq : ps.map (fun p => (p.1, evo f p.2)) = (vs.zipIdx k).map fun (v, i) => (i, v)
instance PartsL.nil {k : Nat} : PartsL f k [] [] := ⟨rfl⟩
instance PartsL.cons {k : Nat} {x : Operand} {ps : List (Nat × Operand)} {v : Value} {vs : List Value} [h : Ev f x v] [g : PartsL f (k + 1) ps vs] : PartsL f k ((k, x) :: ps) (v :: vs) :=
  ⟨by simp [h.eq, g.eq]⟩

theorem run_buildSlice {len : Nat} {vs : List Value} {z : α} (u : U P t (.slice e)) (eo : ElemOf P e E bytes) (ze : ZeroE P e E z) (hl : vs.length = len) (hv : ∀ v ∈ vs, v.cells.size = E.sz) (hb : len * E.sz ≤ 16777216) (ps : Array (Nat × Value))
    (hp : ps.toList = vs.zipIdx.map fun (v, i) => (i, v)) (w : World) :
    (Instr.buildSlice t len ps).run P w = .ok (.slice (some ⟨w.heap.size, 0, none⟩) len len) (w.alloc (.cells (vs.flatMap (fun v => v.cells.toList)).toArray e)) := by
  obtain ⟨d0, i, hd0, hag, hi, hsz, hby⟩ := eo.ti.h
  obtain ⟨i', zv, hi', hz, hzc⟩ := ze.h
  rw [hi] at hi'; injection hi' with hi'; subst hi'
  have hf : ∀ cells : Array Value, cells.size = len * E.sz → Instr.fill (fun i => some (i * E.sz, E.sz)) cells ps.toList = some (vs.flatMap (fun v => v.cells.toList)).toArray := by
    intro cells hc
    rw [hp, fill_parts E.sz vs 0 cells hv (by simp [hl, hc])]
    simp [hl, hc]
  unfold Instr.buildSlice
  simp only [Sem.run_bind, run_underlying u.h, Result.andThen_ok, eo.ti.run_sizeOf]
  rw [if_neg (by omega)]
  by_cases h0 : len * E.sz = 0
  · simp [h0, hf, newRow, newObj, Sem.run]
  · simp [h0, zeroValue, typeInfo, hi, hz, hf, newRow, newObj, Sem.run]

theorem flat_map (xs : List α) : E.flat xs = (xs.map E.val).flatMap (fun v => v.cells.toList) := by simp [Elem.flat, List.flatMap_map]

/-- a literal of at least one element is read alone -/
instance Step.buildSlice {z : α} {len : Nat} {ps : List (Nat × Operand)} {vs : List Value} [pl : PartsL f 0 ps vs] [u : U P t (.slice e)] [eo : ElemOf P e E bytes] [ze : ZeroE P e E z] [el : EncL E vs xs] [ln : LenV vs len] [lb : EqB (Nat.ble len 10000) true] [se : SmallE E] :
    Step P (.buildSlice t len ps.toArray) ty f σ (fun K _ => ∀ (σ' : St) (A' : Option Addr), Nx σ σ' .no → SL σ' A' len len E xs → K (.slice A' len len) σ') := ⟨fun K E' hK => by
  have h1 := ln.eq
  have h3 := Nat.le_of_ble_eq_true lb.eq
  have h2 : len * E.sz ≤ 16777216 := Nat.le_trans (Nat.mul_le_mul h3 se.le) (by decide)
  obtain ⟨σ', hw, hn, hm, _, ho, hs⟩ := st_new σ (.cells (vs.flatMap (fun v => v.cells.toList)).toArray e) False
  have hvs : ∀ v ∈ vs, v.cells.size = E.sz := by
    intro v hv; rw [el.eq] at hv; obtain ⟨x, _, rfl⟩ := List.mem_map.1 hv; exact E.size x
  have hr : (execOp (evo f) ⟨none, .buildSlice t len ps.toArray, ty, "", #[], none⟩).run P σ.w = .ok (.value (.slice (some ⟨σ.w.heap.size, 0, none⟩) len len)) (σ.w.alloc (.cells (vs.flatMap (fun v => v.cells.toList)).toArray e)) := by
    have hp : (ps.toArray.map fun (i, x) => (i, evo f x)).toList = vs.zipIdx.map fun (v, i) => (i, v) := by
      simpa using pl.eq
    simp only [execOp, Sem.run_bind, run_buildSlice u eo ze h1 hvs h2 _ hp]; rfl
  unfold OpW; rw [hr]
  have hxl : xs.length = len := by rw [← h1, el.eq]; simp
  refine ⟨σ', hw, hK σ' _ ⟨hn⟩ ⟨hxl, Nat.le_refl _, by omega, el.ok, ?_⟩⟩
  by_cases h0 : len = 0
  · exact .inl h0
  · refine .inr ⟨σ.w.heap.size, 0, rfl, fun h => ?_, by omega, fun j v hj => ?_⟩
    · exact hm.1 h
    · rw [cell_own ho, Nat.zero_add]
      rw [flat_map, ← el.eq] at hj
      simpa using hj⟩

/-- an empty literal: a row of the call's own -/
instance (priority := high) Step.buildSlice0 {z : α} [u : U P t (.slice e)] [eo : ElemOf P e E bytes] [ze : ZeroE P e E z] :
    Step P (.buildSlice t 0 #[]) ty f σ (fun K _ => ∀ (σ' : St) (A' : Option Addr), Nx σ σ' .no → RowNew σ none A' → Row σ' A' 0 0 e E [] → K (.slice A' 0 0) σ') := ⟨fun K E' hK => by
  obtain ⟨σ', hw, hn, hm, _, ho, hs⟩ := st_new σ (.cells #[] e) True
  have hrun := run_buildSlice (P := P) (vs := []) (len := 0) u eo ze rfl (by simp) (by omega) #[] rfl σ.w
  have hr : (execOp (evo f) ⟨none, .buildSlice t 0 #[], ty, "", #[], none⟩).run P σ.w = .ok (.value (.slice (some ⟨σ.w.heap.size, 0, none⟩) 0 0)) (σ.w.alloc (.cells #[] e)) := by
    simp only [execOp, Sem.run_bind, List.map_toArray, List.map_nil, Array.map_empty]
    rw [hrun]; rfl
  unfold OpW; rw [hr]
  refine ⟨σ', hw, hK σ' _ ⟨hn⟩ ⟨fun a' ha' => ?_⟩ (Row.of_own rfl (by simp) ⟨by simp [Elem.flat], .inr ⟨σ.w.heap.size, 0, _, rfl, Nat.zero_le _, ho, Nat.le_refl _, Nat.zero_le _, by simp, by simp [Elem.flat]⟩⟩ (fun a ha => ?_))⟩
  · injection ha' with ha'; subst ha'; exact .inr (Nat.le_refl _)
  · injection ha with ha; subst ha; exact hm.2 trivial⟩
/-- an element of a row is written -/
instance Step.store_slot {x y : Operand} {i : Nat} {v : Value} {w : α} [h : Ev f x (slotV E A i)] [g : Ev f y v] [r : Row σ A n c e E xs] [l : IdxLt i n] [eo : ElemOf P t E bytes] [en : EncV E v w] :
    Step P (.store t x y) ty f σ (fun K _ => ∀ σ' : St, Nx σ σ' (.row A e) → Row σ' A n c e E (xs.set i w) → K undef σ') := ⟨fun K E' hK => by
  have hl := l.lt
  have hlen := r.len
  obtain ⟨hfl, h1⟩ := r.own
  rcases h1 with ⟨_, hn⟩ | ⟨b, cap, cur, e1, _, hh, hnc, hcm, hsz, hx⟩
  · omega
  injection e1 with ea _ ec
  subst ea; subst ec
  have hv := en.eq
  subst hv
  have hoff : i * E.sz + E.sz ≤ n * E.sz := by rw [← Nat.succ_mul]; exact Nat.mul_le_mul_right _ hl
  have hnc' : n * E.sz ≤ c * E.sz := Nat.mul_le_mul_right _ hnc
  have hput : PutV cur (i * E.sz) (E.val w).cells (putCells cur (i * E.sz) (E.val w).cells) := ⟨by rw [E.size]; omega, rfl⟩
  have hst := run_storeVar_own (P := P) (w := σ.w) eo.ti (b := b) (off := i * E.sz) (v := E.val w) ⟨rfl⟩ ⟨E.size w, E.one w⟩ hh hput
  have hM := r.m _ rfl
  obtain ⟨σ', hw, hnx, ho⟩ := st_set (σ := σ) (b := b) (t := e) (cs := cur) ⟨hM, hh⟩ (putCells cur (i * E.sz) (E.val w).cells)
  have hr : (execOp (evo f) ⟨none, .store t x y, ty, "", #[], none⟩).run P σ.w = .ok .skip (σ.w.setRow b (putCells cur (i * E.sz) (E.val w).cells)) := by
    simp [execOp, h.eq, g.eq, slotV, add_at, Instr.storeAt, Instr.sureAddr, hst]
  unfold OpW; rw [hr]
  have hcells : (putCells cur (i * E.sz) (E.val w).cells).toList.take (n * E.sz) = E.flat (xs.set i w) := by
    have hx1 : E.flat (xs.set i w) = E.flat (xs.take i) ++ (E.val w).cells.toList ++ E.flat (xs.drop (i + 1)) := by
      rw [List.set_eq_take_append_cons_drop, if_pos (by omega), E.flat_append, E.flat_cons, List.append_assoc]
    have e1 : E.flat (xs.take i) = cur.toList.take (i * E.sz) := by
      rw [← E.flat_take, ← hx, List.take_take, Nat.min_eq_left (by omega)]
    have e2 : E.flat (xs.drop (i + 1)) = (cur.toList.take (n * E.sz)).drop (i * E.sz + E.sz) := by
      rw [← E.flat_drop, ← hx, Nat.succ_mul]
    rw [hx1, e1, e2]
    have hcl : (E.val w).cells.toList.length = E.sz := by simp [E.size]
    have htl : (cur.toList.take (i * E.sz)).length = i * E.sz := by simp; omega
    simp only [putCells, E.size, List.toList_toArray]
    rw [List.take_append, List.take_of_length_le (by simp [hcl]; omega)]
    congr 1
    rw [List.drop_take]
    congr 1
    simp [hcl]; omega
  refine ⟨σ', hw, hK σ' ⟨⟨hnx.os, hnx.tape, hnx.output, hnx.size, hnx.imm, hnx.mm, fun k hk hx => hnx.own k hk (fun e => hx ⟨_, rfl, e.symm⟩), nofun, ?_, nofun⟩⟩ (Row.of_own (by simp [hlen]) (fun y hy => ?_) ⟨by rw [E.flat_length]; simp [hlen], .inr ⟨b, c, _, rfl, Nat.zero_le _, ho.h, hnc, hcm, ?_, hcells⟩⟩ (fun a ha => ?_))⟩
  · intro A2 t2 e2 a ha
    injection e2 with e2 e3
    subst e2; subst e3
    injection ha with ha; subst ha
    exact ⟨_, _, hh⟩
  · rcases List.mem_or_eq_of_mem_set hy with hy | rfl
    · exact r.ok y hy
    · exact en.ok
  · simp [putCells, E.size]; omega
  · injection ha with ha; subst ha; exact ho.m⟩
end

/-! ### Calls that write a row of the caller's -/
class Sx (σ0 : St) (X : Xs) (σ : St) : Prop where
  p : NxP σ0 σ X
theorem NxP.comp {σ0 σ σ' : St} {X Y : Xs} (h : NxP σ0 σ X) (k : NxP σ σ' Y) (hy : ∀ b, b < σ0.w.heap.size → Y.hits b → X.hits b) : NxP σ0 σ' X :=
  ⟨k.os.trans h.os, k.tape.trans h.tape, k.output.trans h.output, Nat.le_trans h.size k.size,
   fun b hb hm => (k.imm b (Nat.lt_of_lt_of_le hb h.size) (fun hm' => hm (h.mm b hb hm'))).trans (h.imm b hb hm),
   fun b hb hm => h.mm b hb (k.mm b (Nat.lt_of_lt_of_le hb h.size) hm),
   fun b hb hx => ⟨((k.own b (Nat.lt_of_lt_of_le hb h.size) (fun hh => hx (hy b hb hh))).1).trans (h.own b hb hx).1, fun hm => (k.own b (Nat.lt_of_lt_of_le hb h.size) (fun hh => hx (hy b hb hh))).2 ((h.own b hb hx).2 hm)⟩, h.ty, h.tyr, h.tym⟩
instance Sx.self {σ0 σ : St} {X : Xs} [h : Nx σ0 σ X] : Sx σ0 X σ := ⟨h.p⟩
instance (priority := low) Sx.no {σ0 σ σ' : St} {X : Xs} [k : Nx σ σ' .no] [h : Sx σ0 X σ] : Sx σ0 X σ' := ⟨h.p.comp k.p (fun _ _ h => h.elim)⟩
instance (priority := low) Sx.row {σ0 σ σ' : St} {A : Option Addr} {t : TypeId} [k : Nx σ σ' (.row A t)] [h : Sx σ0 (.row A t) σ] : Sx σ0 (.row A t) σ' := ⟨h.p.comp k.p (fun _ _ h => h)⟩
theorem Row.refl {σ : St} {A : Option Addr} {n c : Nat} {t : TypeId} {α : Type} {E : Elem α} {xs : List α} (r : Row σ A n c t E xs) : NxP σ σ (.row A t) :=
  ⟨rfl, rfl, rfl, Nat.le_refl _, fun _ _ _ => rfl, fun _ _ h => h, fun _ _ _ => ⟨rfl, id⟩, nofun, fun A' t' e a ha => by
    injection e with e1 e2
    subst e1; subst e2
    exact r.typed a ha, nofun⟩
instance (priority := low) Sx.rowRefl {σ : St} {A : Option Addr} {n c : Nat} {t : TypeId} {α : Type} {E : Elem α} {xs : List α} [r : Row σ A n c t E xs] : Sx σ (.row A t) σ := ⟨r.refl⟩
theorem Sx.nx {σ0 σ : St} {X : Xs} (h : Sx σ0 X σ) : Nx σ0 σ X := ⟨h.p⟩

/-- a row that is written no more -/
theorem WC.freeze {P : Program} {n0 : Nat} {Q : PostQ} {co : Code} {D : List Deferred} {f : Fr} {σ : St} (A : Option Addr) {n c : Nat} {t : TypeId} {α : Type} {E : Elem α} {xs : List α} [h : Row σ A n c t E xs] (k : ∀ σ' : St, Nx σ σ' (.row A t) → SL σ' A n c E xs → WC P n0 Q co D f σ') : WC P n0 Q co D f σ := by
  obtain ⟨σ', hw, hn, hs⟩ := h.freeze
  exact WC.of (fun a h1 h2 h3 => by rw [← hw]; exact (k σ' ⟨hn⟩ hs).use a h1 h2 h3)
/-- a function value that compares -/
class CmpF (P : Program) (fv : Value) {α : outParam Type} (E : outParam (Elem α)) (r : outParam (α → α → Int)) : Prop where
  rule : ∀ (σ : St) (x y : α), ValRule P fv [E.val x, E.val y] σ (fun K _ => ∀ σ', Nx σ σ' .no → K (.int .i64 (r x y)) σ')
instance ValRule.cmp {P : Program} {fv v u : Value} {α : Type} {E : Elem α} {r : α → α → Int} {x y : α} {σ : St} [c : CmpF P fv E r] [h : EncV E v x] [g : EncV E u y] : ValRule P fv [v, u] σ (fun K _ => ∀ σ', Nx σ σ' .no → K (.int .i64 (r x y)) σ') := by
  rw [h.eq, g.eq]; exact c.rule σ x y

section
variable {P : Program} {fn : Func} {f : Fr} {σ : St} {K : KV} {E : KE}
theorem res0 (hr : fn.results = #[]) (hk : K (.tuple #[]) σ) : resQ P fn K E .ret [] f σ :=
  ⟨rfl, _, fun a ha => by rw [results_none hr], σ, rfl, hk⟩
theorem res0n (hr : fn.results = #[]) (hk : K (.tuple #[]) σ) : resQ P fn K E .normal [] f σ := res0 (E := E) hr hk
end
end Go.Proofs.Ytlidbnmdhnfolaa
