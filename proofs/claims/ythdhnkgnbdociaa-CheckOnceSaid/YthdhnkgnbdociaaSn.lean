/- The engine, part 8: parts of rows: cut, written, cleared; rows that are handed back; nil. No condition. -/
import Derived.Test.YthdhnkgnbdociaaCp
import GoSem.Extern.SlicesOverlaps
set_option linter.all false
namespace Go.Proofs.Ythdhnkgnbdociaa
open Go Go.RowKit
section
variable {P : Program} {f : Fr} {σ σ' : St} {ty : TypeId} {A B : Option Addr} {n m c d : Nat} {α : Type} {E : Elem α} {xs ys : List α} {t t' e : TypeId} {bytes : Nat}
theorem Row.refl' (r : Row σ A n c t E xs) : NxP σ σ (.row A t) := NxP.rfl_ (Tyd.row (r := r))
theorem cutA_zero (u c : Nat) : cutA E A 0 u c = A := by
  unfold cutA
  split
  · rfl
  · cases A with
    | none => rfl
    | some a => simp [Addr.add]

instance (priority := low) NeN.comm {a b : Nat} [h : NeN a b] : NeN b a := ⟨fun e => h.ne e.symm⟩
/-- a part of what can be read -/
instance (priority := low) Rd.cut {l u : Nat} [h : Rd σ A n c E xs] [a1 : LeN l u] [a2 : LeN u n] : Rd σ (cutA E A l u c) (u - l) (c - l) E ((xs.drop l).take (u - l)) := by
  have hl := h.len; have hm := h.max; have hc := h.le; have h1 := a1.le; have h2 := a2.le
  refine ⟨by simp; omega, by omega, by omega, fun x hx => h.ok x (List.mem_of_mem_drop (List.mem_of_mem_take hx)), ?_⟩
  by_cases hul : u - l = 0
  · exact .inl hul
  · refine .inr ?_
    rcases h.rd with h0 | ⟨b, o, ha, hc⟩
    · omega
    · unfold cutA
      rw [if_neg (by omega)]
      refine ⟨b, o + l * E.sz, by rw [ha]; simp [add_at], fun j v hj => ?_⟩
      rw [← E.flat_take, List.getElem?_take] at hj
      split at hj
      · rw [← E.flat_drop, List.getElem?_drop] at hj
        rw [Nat.add_assoc]; exact hc _ _ hj
      · cases hj
/-- the first ones of a row, up to what it has room for -/
instance (priority := high) StepV.slice_row {x hi : Operand} {k' : IntKind} {jh : Int} {n1 u : Nat} [h : Ev f x (.slice A n1 c)] [r : Row σ A n c e E xs] [g' : Ev f hi (.int k' jh)] [uu : U P t (.slice e)] [eo : ElemOf P e E bytes] [q' : ToNat jh u] [a2 : LeN u c] :
    StepV P (.slice t x none (some hi) none) ty f σ (.slice A u c) := ⟨by
  have h2 := a2.le
  have e2 := q'.eq
  subst e2
  have hz := cutA_zero (E := E) (A := A) u c
  unfold cutA at hz
  simp [execOp, h.eq, g'.eq, Instr.sliceAt, Instr.slice, Instr.sliceBounds, Instr.sliceBound, asIntOf, run_underlying uu.h, eo.ti.run_sizeOf, h2]
  intro _
  cases A <;> simp [Addr.add]⟩
/-- a part of a row, up to what it has room for -/
instance (priority := low) StepV.slice_row2 {x lo hi : Operand} {k k' : IntKind} {jl jh : Int} {l u n1 : Nat} [h : Ev f x (.slice A n1 c)] [r : Row σ A n c e E xs] [g : Ev f lo (.int k jl)] [g' : Ev f hi (.int k' jh)] [uu : U P t (.slice e)] [eo : ElemOf P e E bytes] [q : ToNat jl l] [q' : ToNat jh u] [a1 : LeN l u] [a2 : LeN u c] :
    StepV P (.slice t x (some lo) (some hi) none) ty f σ (.slice (cutA E A l u c) (u - l) (c - l)) := ⟨by
  have h1 := a1.le
  have h2 := a2.le
  have e1 := q.eq
  have e2 := q'.eq
  subst e1; subst e2
  simp [execOp, h.eq, g.eq, g'.eq, Instr.sliceAt, Instr.slice, Instr.sliceBounds, Instr.sliceBound, asIntOf, run_underlying uu.h, eo.ti.run_sizeOf, cutA, h1, h2]⟩
/-- s[l:h:m] -/
instance StepV.slice3 {x lo hi mx : Operand} {k k' k2 : IntKind} {jl jh jm : Int} {l u v : Nat} [h : Ev f x (.slice A n c)] [g : Ev f lo (.int k jl)] [g' : Ev f hi (.int k' jh)] [g2 : Ev f mx (.int k2 jm)] [r : Rd σ A n c E xs] [uu : U P t (.slice e)] [eo : ElemOf P e E bytes] [q : ToNat jl l] [q' : ToNat jh u] [q2 : ToNat jm v] [a1 : LeN l u] [a2 : LeN u v] [a3 : LeN v n] :
    StepV P (.slice t x (some lo) (some hi) (some mx)) ty f σ (.slice (cutA E A l u v) (u - l) (v - l)) := ⟨by
  have h1 := a1.le
  have h2 := a2.le
  have h3 := Nat.le_trans a3.le r.le
  have e1 := q.eq
  have e2 := q'.eq
  have e3 := q2.eq
  subst e1; subst e2; subst e3
  simp [execOp, h.eq, g.eq, g'.eq, g2.eq, Instr.sliceAt, Instr.slice, Instr.sliceBounds, Instr.sliceBound, asIntOf, run_underlying uu.h, eo.ti.run_sizeOf, cutA, h1, h2, h3]⟩
/-- what is sliced three-fold has the length that is told -/
instance SL.cut3 {l u v : Nat} [h : SL σ A n c E xs] [a1 : LeN l u] [a2 : LeN u n] [a3 : LeN u v] : SL σ (cutA E A l u v) (u - l) (v - l) E ((xs.drop l).take (u - l)) := by
  have h1 := a1.le; have h2 := a2.le; have h3 := a3.le
  have hl := h.len; have hm := h.max; have hc := h.le
  refine ⟨by simp; omega, by omega, by omega, fun x hx => h.ok x (List.mem_of_mem_drop (List.mem_of_mem_take hx)), ?_⟩
  by_cases hul : u - l = 0
  · exact .inl hul
  · refine .inr ?_
    rcases h.rd with h0 | ⟨b, o, ha, hb, hlt, hc⟩
    · omega
    · unfold cutA
      rw [if_neg (by omega)]
      refine ⟨b, o + l * E.sz, by rw [ha]; simp [add_at], hb, hlt, fun j v hj => ?_⟩
      rw [← E.flat_take, List.getElem?_take] at hj
      split at hj
      · rw [← E.flat_drop, List.getElem?_drop] at hj
        rw [Nat.add_assoc]; exact hc _ _ hj
      · cases hj
instance (priority := low) StepV.slice_none {x : Operand} {A : Option Addr} {n c : Nat} [h : Ev f x (.slice A n c)] [r : Rd σ A n c E xs] [uu : U P t (.slice e)] [eo : ElemOf P e E bytes] : StepV P (.slice t x none none none) ty f σ (.slice A n c) := ⟨by
  have hle := r.le
  simp [execOp, h.eq, Instr.sliceAt, Instr.slice, Instr.sliceBounds, run_underlying uu.h, eo.ti.run_sizeOf]
  intro _
  cases A <;> simp [Addr.add]⟩
instance StepV.cap_slice {x : Operand} [u : U P t (.slice e)] [h : Ev f x (.slice A n c)] : StepV P (.call { callee := .builtin .cap, args := #[x], argTypes := #[t] }) ty f σ (.int .i64 c) :=
  ⟨(by simp [execOp, resolve, h.eq, invoke, builtin, Builtin.cap_, run_underlying u.h, goInt])⟩

/-- a row is told longer, or shorter -/
theorem Row.resize {u : Nat} (r : Row σ A n c t E xs) (hu : u ≤ c) : ∃ σ' ys, σ'.w = σ.w ∧ NxP σ σ' (.row A t) ∧ Row σ' A u c t E ys ∧ ys.take n = xs.take u ∧ ys.length = u := by
  have hn : NxP σ σ (.row A t) := r.refl'
  rcases r.full with ⟨ea, hc⟩ | ⟨b, zs, ea, hh, hz, ht, hok⟩
  · have h0 : u = 0 := by omega
    have hl := r.le; have hx := r.len
    have hx0 : xs = [] := List.eq_nil_of_length_eq_zero (by omega)
    subst h0; subst hx0
    exact ⟨σ, [], rfl, hn, ⟨rfl, by simp, Nat.zero_le _, r.max, .inl ⟨ea, hc⟩, r.m⟩, by simp, rfl⟩
  · have hl : (zs.take u).length = u := by simp; omega
    refine ⟨σ, zs.take u, rfl, hn, Row.mk_ hl hu r.max ea hh hz rfl hok (r.m _ ea), ?_, hl⟩
    rw [← ht, List.take_take, List.take_take, Nat.min_comm]
theorem WC.resize {P : Program} {n0 : Nat} {Q : PostQ} {co : Code} {D : List Deferred} {f : Fr} {σ : St} (A : Option Addr) (u : Nat) {n c : Nat} {t : TypeId} {α : Type} {E : Elem α} {xs : List α} [h : Row σ A n c t E xs] (hu : u ≤ c) (k : ∀ (σ' : St) (ys : List α), Nx σ σ' (.row A t) → Row σ' A u c t E ys → ys.take n = xs.take u → ys.length = u → WC P n0 Q co D f σ') : WC P n0 Q co D f σ := by
  obtain ⟨σ', ys, hw, hn, hr, he, hl⟩ := h.resize hu
  exact WC.of (fun a h1 h2 h3 => by rw [← hw]; exact (k σ' ys ⟨hn⟩ hr he hl).use a h1 h2 h3)

theorem WL.resize {P : Program} {n0 : Nat} {Q : PostQ} {ops : Array Oper} {l : List Oper} {D : List Deferred} {f : Fr} {σ : St} (A : Option Addr) (u : Nat) {n c : Nat} {t : TypeId} {α : Type} {E : Elem α} {xs : List α} [h : Row σ A n c t E xs] (hu : u ≤ c) (k : ∀ (σ' : St) (ys : List α), Nx σ σ' (.row A t) → Row σ' A u c t E ys → ys.take n = xs.take u → ys.length = u → WL P ops n0 Q l D f σ') : WL P ops n0 Q l D f σ := by
  obtain ⟨σ', ys, hw, hn, hr, he, hl⟩ := h.resize hu
  exact WL.of (fun a h1 h2 h3 => by rw [← hw]; exact (k σ' ys ⟨hn⟩ hr he hl).use a h1 h2 h3)
theorem WL.freeze {P : Program} {n0 : Nat} {Q : PostQ} {ops : Array Oper} {l : List Oper} {D : List Deferred} {f : Fr} {σ : St} (A : Option Addr) {n c : Nat} {t : TypeId} {α : Type} {E : Elem α} {xs : List α} [h : Row σ A n c t E xs] (k : ∀ σ' : St, Nx σ σ' (.row A t) → SL σ' A n c E xs → WL P ops n0 Q l D f σ') : WL P ops n0 Q l D f σ := by
  obtain ⟨σ', hw, hn, hs⟩ := h.freeze
  exact WL.of (fun a h1 h2 h3 => by rw [← hw]; exact (k σ' ⟨hn⟩ hs).use a h1 h2 h3)
/-- what is written into a row from place l on -/
theorem Row.splice {b l : Nat} {zs : List α} (r : Row σ A n c e E xs) (ea : A = some ⟨b, 0, none⟩) (hh : σ.w.heap[b]? = some (.cells (E.flat zs).toArray e (0, 0))) (hzl : zs.length = c) (hzt : zs.take n = xs) (hzok : ∀ z ∈ zs, E.ok σ z) (vs : List α) (hv : ∀ z ∈ vs, E.ok σ z) (hl : l + vs.length ≤ c) (hln : l ≤ n) :
    ∃ σ', σ'.w = σ.w.setRow b ((E.flat zs).toArray.toList.take (l * E.sz) ++ E.flat vs ++ (E.flat zs).toArray.toList.drop (l * E.sz + (E.flat vs).length)).toArray ∧ NxP σ σ' (.row A e) ∧ Row σ' A n c e E ((xs.take l ++ vs ++ xs.drop (l + vs.length)).take n) := by
  have hle := r.le
  obtain ⟨σ', hw, hnx, hrow⟩ := r.set_ (n' := n) (zs' := zs.take l ++ vs ++ zs.drop (l + vs.length)) (ys := (xs.take l ++ vs ++ xs.drop (l + vs.length)).take n) ea hh (by simp; omega) (by
    rw [← hzt, List.take_take, Nat.min_eq_left hln, List.drop_take]
    have hl1 : (zs.take l ++ vs).length = l + vs.length := by simp; omega
    rw [List.take_append, List.take_append (l₁ := zs.take l ++ vs), hl1]
    congr 1
    rw [List.take_take, Nat.min_self]) hle (fun z hz => by
    rcases List.mem_append.1 hz with h | h
    · rcases List.mem_append.1 h with h | h
      · exact hzok z (List.mem_of_mem_take h)
      · exact hv z h
    · exact hzok z (List.mem_of_mem_drop h))
  exact ⟨σ', by rw [hw, flat_splice E zs vs l (by omega)], hnx, hrow⟩
/-- copy into a part of a row -/
instance Step.copy_cut {x y : Operand} {l u c1 : Nat} [h : Ev f x (.slice (cutA E A l u c1) (u - l) (c1 - l))] [g : Ev f y (.slice B m d)] [r : Row σ A n c e E xs] [q : EqN c1 c] [a1 : LeN l u] [a2 : LeN u n] [s : Rd σ B m d E ys] [ut : U P t (.slice e)] [eo : ElemOf P e E bytes] :
    Step P (.call { callee := .builtin .copy, args := #[x, y], argTypes := #[t, t'] }) ty f σ
      (fun K _ => ∀ σ' : St, Nx σ σ' (.row A e) → Row σ' A n c e E ((xs.take l ++ ys.take (min m (u - l)) ++ xs.drop (l + (ys.take (min m (u - l))).length)).take n) → K (.int .i64 ((min m (u - l) : Nat) : Int)) σ') := ⟨fun K E' hK => by
  have e1 := q.eq
  subst e1
  have h1 := a1.le
  have h2 := a2.le
  have hle := r.le
  have hlen := r.len
  have hl2 := s.len
  have hcells : (Builtin.firstCells E.sz (min m (u - l)) (.slice B m d)).run P σ.w = .ok (E.flat (ys.take (min m (u - l)))).toArray σ.w := by
    rcases s.rd with h0 | ⟨b, o, ha, hc⟩
    · have : ys = [] := List.eq_nil_of_length_eq_zero (by omega)
      subst this
      have hm0 : min m (u - l) = 0 := by omega
      cases B with
      | none => simp [Builtin.firstCells, Elem.flat]
      | some ad => simp [Builtin.firstCells, hm0, loadCells, loadCellsFrom, Elem.flat]
    · subst ha
      have hl : (E.flat (ys.take (min m (u - l)))).length = min m (u - l) * E.sz := by rw [E.flat_length]; congr 1; simp; omega
      have := run_loadCells_list (P := P) σ.w ⟨b, o, none⟩ (E.flat (ys.take (min m (u - l)))) (fun j v hj => by
        rw [add_at]
        rw [← E.flat_take, List.getElem?_take] at hj
        split at hj
        · exact hc j v hj
        · cases hj)
      rw [hl] at this
      simpa [Builtin.firstCells] using this
  have e6 : (ys.take (min m (u - l))).length = min m (u - l) := by simp; omega
  rcases r.full with ⟨ea, hc0⟩ | ⟨b, zs, ea, hh, hzl, hzt, hzok⟩
  · have hl0 : l = 0 := by omega
    have hu0 : u = 0 := by omega
    have hn0 : n = 0 := by omega
    subst ea; subst hc0; subst hl0; subst hu0; subst hn0
    have hx0 : xs = [] := List.eq_nil_of_length_eq_zero hlen
    subst hx0
    have hr : (execOp (evo f) ⟨none, .call { callee := .builtin .copy, args := #[x, y], argTypes := #[t, t'] }, ty, "", #[], none⟩).run P σ.w = .ok (.value (.int .i64 ((min m (0 - 0) : Nat) : Int))) σ.w := by
      have := hcells
      simp [execOp, resolve, h.eq, g.eq, cutA, invoke, builtin, Builtin.copy_, run_underlying ut.h, Builtin.lenOf, eo.ti.run_sizeOf, goInt] at this ⊢
      simp [this]
    unfold OpW; rw [hr]
    exact ⟨σ, rfl, hK σ ⟨⟨rfl, rfl, rfl, Nat.le_refl _, fun _ _ _ => rfl, fun _ _ h => h, fun _ _ _ => ⟨rfl, id⟩, nofun⟩⟩ (by simpa using r)⟩
  · obtain ⟨σ', hw, hnx, hrow⟩ := r.splice (l := l) ea hh hzl hzt hzok (ys.take (min m (u - l))) (fun z hz => s.ok z (List.mem_of_mem_take hz)) (by omega) (by omega)
    have hst := run_storeCells_at (P := P) b (l * E.sz) e (E.flat (ys.take (min m (u - l)))) 0 (E.flat zs).toArray σ.w hh (by
      rw [E.flat_length, E.flat_size, e6, Nat.add_zero, ← Nat.add_mul]; exact Nat.mul_le_mul_right _ (by omega)) (E.flat_one)
    simp only [Nat.add_zero] at hst
    have hr : (execOp (evo f) ⟨none, .call { callee := .builtin .copy, args := #[x, y], argTypes := #[t, t'] }, ty, "", #[], none⟩).run P σ.w = .ok (.value (.int .i64 ((min m (u - l) : Nat) : Int))) σ'.w := by
      rw [hw]
      subst ea
      by_cases hcl : c1 = l
      · have hul : u - l = 0 := by omega
        have hs0 : (E.flat zs).toArray.toList.take (l * E.sz) ++ E.flat (ys.take (min m (u - l))) ++ (E.flat zs).toArray.toList.drop (l * E.sz + (E.flat (ys.take (min m (u - l)))).length) = (E.flat zs).toArray.toList := by
          simp [hul, Elem.flat_nil]
        rw [hs0, Array.toArray_toList, setRow_self _ _ _ _ _ hh]
        simp [hul] at hcells
        simp [execOp, resolve, h.eq, g.eq, hul, invoke, builtin, Builtin.copy_, run_underlying ut.h, Builtin.lenOf, eo.ti.run_sizeOf, goInt, cutA, hcl, hcells, storeCells, Elem.flat_nil]
      · simp only [execOp, resolve, List.map_toArray, List.map_cons, List.map_nil, h.eq, g.eq, Sem.run_bind, Sem.run_pure, Result.andThen_ok, invoke, builtin, Builtin.copy_]
        simp [run_underlying ut.h, Builtin.lenOf, eo.ti.run_sizeOf, goInt, show Nat.min m (u - l) = min m (u - l) from rfl, hcells, cutA, hcl, add_at, hst]
    unfold OpW; rw [hr]
    exact ⟨σ', rfl, hK σ' ⟨hnx⟩ hrow⟩⟩
/-- clear of what a row has room for, behind its end -/
instance Step.clear_tail {z : α} {x : Operand} {l u c1 : Nat} [h : Ev f x (.slice (cutA E A l u c1) (u - l) (c1 - l))] [r : Row σ A n c e E xs] [q : EqN c1 c] [a1 : LeN n l] [a3 : LeN l u] [a2 : LeN u c] [ut : U P t (.slice e)] [eo : ElemOf P e E bytes] [ze : ZeroE P e E z] :
    Step P (.call { callee := .builtin .clear, args := #[x], argTypes := #[t] }) ty f σ (fun K _ => ∀ σ' : St, Nx σ σ' (.row A e) → Row σ' A n c e E xs → K (.tuple #[]) σ') := ⟨fun K E' hK => by
  have e1 := q.eq
  subst e1
  have h1 := a1.le
  have h2 := a2.le
  have h3 := a3.le
  have hle := r.le
  obtain ⟨d0, i, hd0, hag, hi, hsz, hby⟩ := eo.ti.h
  obtain ⟨i', zv, hi', hz, hzc⟩ := ze.h
  rw [hi] at hi'; injection hi' with hi'; subst hi'
  have hself : NxP σ σ (.row A e) := r.refl'
  by_cases hul : u - l = 0
  · have hr : (execOp (evo f) ⟨none, .call { callee := .builtin .clear, args := #[x], argTypes := #[t] }, ty, "", #[], none⟩).run P σ.w = .ok (.value (.tuple #[])) σ.w := by
      simp only [execOp, resolve, List.map_toArray, List.map_cons, List.map_nil, h.eq, hul, Sem.run_bind, Sem.run_pure, Result.andThen_ok, invoke, builtin, Builtin.clear_]
      cases hA : cutA E A l u c1 <;> simp [run_underlying ut.h]
    unfold OpW; rw [hr]
    exact ⟨σ, rfl, hK σ ⟨hself⟩ r⟩
  · rcases r.full with ⟨ea, hc0⟩ | ⟨b, zs, ea, hh, hzl, hzt, hzok⟩
    · omega
    · subst ea
      obtain ⟨σ', hw, hnx, hrow⟩ := r.set_ (n' := n) (zs' := zs.take l ++ List.replicate (u - l) z ++ zs.drop (l + (List.replicate (u - l) z).length)) (ys := xs) rfl hh (by simp; omega) (by
        rw [List.append_assoc, List.take_append_of_le_length (by simp; omega), List.take_take, Nat.min_eq_left h1, hzt]) hle (fun x hx => by
        rcases List.mem_append.1 hx with h | h
        · rcases List.mem_append.1 h with h | h
          · exact hzok x (List.mem_of_mem_take h)
          · rw [(List.mem_replicate.1 h).2]; exact ze.ok _
        · exact hzok x (List.mem_of_mem_drop h))
      have hsp := flat_splice E zs (List.replicate (u - l) z) l (by simp; omega)
      have hzf := zeroCells_flat E z (u - l) hzc
      have hst := run_storeCells_at (P := P) b (l * E.sz) e (E.flat (List.replicate (u - l) z)) 0 (E.flat zs).toArray σ.w hh (by
        rw [E.flat_length, E.flat_size, List.length_replicate, Nat.add_zero, ← Nat.add_mul]; exact Nat.mul_le_mul_right _ (by omega)) (E.flat_one)
      simp only [Nat.add_zero] at hst
      have hr : (execOp (evo f) ⟨none, .call { callee := .builtin .clear, args := #[x], argTypes := #[t] }, ty, "", #[], none⟩).run P σ.w = .ok (.value (.tuple #[])) σ'.w := by
        rw [hw, ← hsp]
        have hcl : ¬ c1 = l := by omega
        obtain ⟨k, hk⟩ : ∃ k, u - l = k + 1 := ⟨u - l - 1, by omega⟩
        simp only [execOp, resolve, List.map_toArray, List.map_cons, List.map_nil, h.eq, Sem.run_bind, Sem.run_pure, Result.andThen_ok, invoke, builtin, Builtin.clear_, cutA, if_neg hcl, Option.map_some, add_at, Nat.zero_add]
        rw [hk] at hst hzf ⊢
        simp [run_underlying ut.h, zeroValue, typeInfo, hi, hz, hzf, hst]
      unfold OpW; rw [hr]
      exact ⟨σ', rfl, hK σ' ⟨hnx⟩ hrow⟩⟩
/-- is a slice nil? -/
theorem run_equalIn_nil (u : U P t (.slice e)) (k : Nat) (w : World) : (Op.equalIn (k + 1) t (.slice A n c) (.slice none 0 0)).run P w = .ok (decide (A = none)) w := by
  cases A <;> simp [Op.equalIn, run_underlying u.h]
instance Eqv.slice_nil {bb : Bool} [u : U P t (.slice e)] [q : BV (decide (A = none)) bb] : Eqv P t (.slice A n c) (.slice none 0 0) bb := by
  have hq := q.eq; subst hq
  have he : ∀ w, (Op.equalIn 10000 t (.slice A n c) (.slice none 0 0)).run P w = .ok (decide (A = none)) w := fun w => run_equalIn_nil u 9999 w
  have hg : ∀ (op : BinOp) (X Y : Operand) w, (eqGuard op t X Y (.slice A n c) (.slice none 0 0)).run P w = .ok () w := by
    intro op X Y w; cases op <;> simp [eqGuard]
  refine ⟨fun X Y w => ?_, fun X Y w => ?_⟩
  all_goals
    simp only [Sem.run_bind, hg, Result.andThen_ok, binOp, Op.equal, Op.maxDepth, he]
    rfl
/-- append(s, make([]T, n)...) -/
instance Step.append_make {z : α} {x y : Operand} {j : Int} {u c1 : Nat} {ti : TypeId} [h : Ev f x (.slice A u c1)] [g : Ev f y (.int .i64 j)] [qj : ToNat j m] [ui : U P ti (.int .i64)] [r : Row σ A n c e E xs] [q : EqN c1 c] [l1 : LeN u n] [ut : U P t (.slice e)] [eo : ElemOf P e E bytes] [ze : ZeroE P e E z] :
    Step P (.call { callee := .builtin .append, args := #[x, y], argTypes := #[t, ti] }) ty f σ
      (fun K _ => ((u + m) * bytes ≤ 140737488355328 ∧ u + m ≤ 9223372036854775807 ∧ c < u + m) ∧ ∀ (σ' : St) (A' : Option Addr) (c' : Nat), Nx σ σ' .no → RowNew σ none A' → Row σ' A' (u + m) c' e E (xs.take u ++ List.replicate m z) → K (.slice A' (u + m) c') σ') := ⟨fun K E' hK => by
  obtain ⟨⟨hb, hmx0, hroom⟩, hK⟩ := hK
  have e1 := q.eq
  subst e1
  have ej := qj.eq
  subst ej
  have hu := l1.le
  have hle := r.le
  have hlen := r.len
  have hmx : u + m ≤ maxLen := by simp only [maxLen]; omega
  obtain ⟨d0, i, hd0, hag, hi, hsz, hby⟩ := eo.ti.h
  obtain ⟨i', zv, hi', hz, hzc⟩ := ze.h
  rw [hi] at hi'; injection hi' with hi'; subst hi'
  have hpos := E.pos
  have hge := grownCap_ge σ.w (u + m) c1 e
  have hcm : grownCap σ.w (u + m) c1 e ≤ maxLen := grownCap_le_maxLen σ.w (u + m) c1 e hmx
  obtain ⟨σ1, hw1, hn1⟩ := st_drew σ (σ.w.drawn + 1)
  obtain ⟨σ2, hw2, hn2, hm2, hm2', ho2, hs2⟩ := st_new σ1 (.cells ((E.flat (xs.take u)).toArray ++ Builtin.zeroCells zv.cells m ++ Builtin.zeroCells zv.cells (grownCap σ.w (u + m) c1 e - (u + m))) e) True
  have hz1 : σ1.w.heap.size = σ.w.heap.size := by rw [hw1]
  have hd : σ1.w = σ.w.drew := hw1
  have hn3 : NxP σ σ2 .no := ⟨hn2.os.trans hn1.os, hn2.tape.trans hn1.tape, hn2.output.trans hn1.output, Nat.le_trans hn1.size hn2.size, fun b hb hb' => (hn2.imm b (by omega) (fun h => hb' (hn1.mm b hb h))).trans (hn1.imm b hb hb'),
    fun b hb h => hn1.mm b hb (hn2.mm b (by omega) h), fun b hb _ => ⟨((hn2.own b (by omega) id).1).trans (hn1.own b hb id).1, fun h => (hn2.own b (by omega) id).2 ((hn1.own b hb id).2 h)⟩, trivial⟩
  have hfl : (E.flat (xs.take u)).toArray ++ Builtin.zeroCells zv.cells m ++ Builtin.zeroCells zv.cells (grownCap σ.w (u + m) c1 e - (u + m)) = (E.flat (xs.take u ++ List.replicate m z ++ List.replicate (grownCap σ.w (u + m) c1 e - (u + m)) z)).toArray := by
    rw [zeroCells_flat E z _ hzc, zeroCells_flat E z _ hzc]; simp only [Elem.flat_append, List.append_toArray]
  have hlx : (xs.take u ++ List.replicate m z).length = u + m := by simp; omega
  have hrow : Row σ2 (some ⟨σ.w.heap.size, 0, none⟩) (u + m) (grownCap σ.w (u + m) c1 e) e E (xs.take u ++ List.replicate m z) :=
    Row.mk_ (zs := xs.take u ++ List.replicate m z ++ List.replicate (grownCap σ.w (u + m) c1 e - (u + m)) z) hlx hge hcm rfl (by rw [hz1] at ho2; rw [ho2, hfl]) (by simp; omega) (by rw [List.take_append_of_le_length (by omega), List.take_of_length_le (by omega)]) (fun x hx => by
      rcases List.mem_append.1 hx with hx | hx
      · rcases List.mem_append.1 hx with hx | hx
        · exact E.nx _ _ _ _ hn3 (r.ok x (List.mem_of_mem_take hx))
        · rw [(List.mem_replicate.1 hx).2]; exact ze.ok _
      · rw [(List.mem_replicate.1 hx).2]; exact ze.ok _) (by rw [hz1] at hm2; exact hm2.2 trivial)
  have hold : (Builtin.firstCells E.sz u (.slice A u c1)).run P σ.w.drew = .ok (E.flat (xs.take u)).toArray σ.w.drew := by
    rcases r.full with ⟨ea, hc0⟩ | ⟨b, zs, ea, hh, hzl, hzt, hzok⟩
    · have : xs = [] := List.eq_nil_of_length_eq_zero (by omega)
      subst this; subst ea
      simp [Builtin.firstCells, Elem.flat_nil]
    · subst ea
      have hfx : E.flat (xs.take u) = (E.flat zs).take (u * E.sz) := by rw [E.flat_take, ← hzt, List.take_take, Nat.min_eq_left hu]
      have := run_loadCells_list (P := P) σ.w.drew ⟨b, 0, none⟩ (E.flat (xs.take u)) (fun j v hv => by
        rw [add_at, Nat.zero_add]
        have hh' : σ.w.drew.heap[b]? = some (.cells (E.flat zs).toArray e (0, 0)) := hh
        rw [cell_own hh']
        rw [hfx, List.getElem?_take] at hv
        split at hv
        · simpa using hv
        · cases hv)
      have hl : (E.flat (xs.take u)).length = u * E.sz := by rw [E.flat_length]; congr 1; simp; omega
      rw [hl] at this
      simpa [Builtin.firstCells] using this
  have hm63 : IntKind.i64.wrap (m : Int) = (m : Int) := by rw [IntKind.wrap_i64]; omega
  have hroom' : ¬ (u + m ≤ c1) := by omega
  have hbm : ¬ ((m : Int) * (i.bytes : Int) > 2 ^ 48) := by
    rw [hby, ← Int.natCast_mul]
    have : m * bytes ≤ (u + m) * bytes := Nat.mul_le_mul_right _ (by omega)
    omega
  have hgb := growslice_fits (old := c1) (need := u + m) (bytes := bytes) (by omega) hb
  have hr : (execOp (evo f) ⟨none, .call { callee := .builtin .append, args := #[x, y], argTypes := #[t, ti] }, ty, "", #[], none⟩).run P σ.w = .ok (.value (.slice (some ⟨σ.w.heap.size, 0, none⟩) (u + m) (grownCap σ.w (u + m) c1 e))) σ2.w := by
    rw [hw2, hd]
    have hmz : ¬ (m * i.size = 0) := by
      have := Nat.mul_pos (show 0 < m by omega) (show 0 < i.size by omega)
      omega
    have hm0 : ¬ ((m : Int) < 0) := by omega
    rw [← hsz] at hold
    have h63' : ¬ (9223372036854775807 < ((u : Int) + (m : Int))) := by omega
    have h48' : ¬ (281474976710656 < Builtin.nextslicecap (u + m) c1 * i.bytes) := by rw [hby]; omega
    have hbm' : ¬ (281474976710656 < (m : Int) * (i.bytes : Int)) := by omega
    simp [execOp, resolve, h.eq, g.eq, invoke, builtin, Builtin.append_, run_underlying ut.h, run_underlying ui.h, sizeOf, typeInfo, zeroValue, asInt, asIntOf, hi, hz, hm63, hbm', hroom', h63', h48', hmz, hm0, Question.forced, hold, newRow, grownCap]
  unfold OpW; rw [hr]
  exact ⟨σ2, rfl, hK σ2 _ _ ⟨hn3⟩ ⟨fun a' ha' => by injection ha' with ha'; subst ha'; exact .inr (Nat.le_refl _)⟩ hrow⟩⟩
end
section
variable {P : Program} {σ : St} {A B : Option Addr} {n m c d : Nat} {α β : Type} {E : Elem α} {F : Elem β} {xs : List α} {ys : List β} {t e e' : TypeId} {bytes : Nat} [Inhabited β]
/-- what nobody writes lies elsewhere than what the call writes -/
theorem run_overlaps {l u c1 k c2 : Nat} (params results : Array TypeId) (hp : params[0]? = some t) (ut : U P t (.slice e)) (ti : ElemOf P e F bytes) (s : SL σ B m d F ys) (r : Row σ A n c e' E xs) (hk : k ≤ c) :
    (Extern.SlicesOverlaps.overlaps params results #[.slice B m d, .slice (cutA E A l u c1) k c2]).run P σ.w = .ok (.bool false) σ.w := by
  have key : ∀ b o o' : Nat, ∀ b', B = some ⟨b', o', none⟩ → A = some ⟨b, 0, none⟩ → cutA E A l u c1 = some ⟨b, o, none⟩ → ¬ m = 0 → ¬ k = 0 → (Extern.SlicesOverlaps.overlaps params results #[.slice B m d, .slice (cutA E A l u c1) k c2]).run P σ.w = .ok (.bool false) σ.w := by
    intro b o o' b' hB hA hc hm hk0
    rcases s.rd with h0 | ⟨b2, o2, hB2, hnm, hlt, hcell⟩
    · omega
    rw [hB] at hB2; injection hB2 with hB2; injection hB2 with e1 e2; subst e1; subst e2
    have hMb : σ.M b := r.m _ hA
    have hne : (b' == b) = false := by
      rw [beq_eq_false_iff_ne]; rintro rfl; exact hnm hMb
    rcases r.full with ⟨ea, _⟩ | ⟨b3, zs, ea, hh, hzl, hzt, hzok⟩
    · rw [hA] at ea; cases ea
    rw [hA] at ea; injection ea with ea; injection ea with ea; subst ea
    have hsh : σ.w.shape? b = some (e', (E.flat zs).toArray.size) := by simp [World.shape?, hh]
    have hfz : ∀ o, σ.w.frozen? ⟨b, o, none⟩ = false := by intro o; simp [World.frozen?, hh]
    have hpos : 0 < (E.flat zs).toArray.size := by
      rw [E.flat_size, hzl]; exact Nat.mul_pos (by omega) E.pos
    have hsb : ∃ x1 x2, σ.w.shape? b' = some (x1, x2 + 1) := by
      have hl : 0 < (F.flat ys).length := by rw [F.flat_length, s.len]; exact Nat.mul_pos (by omega) F.pos
      have := hcell 0 _ (List.getElem?_eq_getElem hl)
      unfold World.cell? at this
      unfold World.shape?
      simp only [Nat.add_zero] at this
      split at this
      · rename_i cs e2 fz hb'
        simp only [Option.isSome_none, Bool.false_eq_true, if_false] at this
        have hsz := (Array.getElem?_eq_some_iff.1 this).1
        exact ⟨e2, cs.size - 1, by simp; omega⟩
      · cases this
    obtain ⟨x1, x2, hsb⟩ := hsb
    have hnz : ¬ (F.sz = 0) := by have := F.pos; omega
    have hst : (stringish ⟨b, o, none⟩).run P σ.w = .ok false σ.w := by
      simp [stringish, frozen, shape, Sem.run, hfz, hsh]
    have hm1 : (mayBeOne ⟨b', o', none⟩ ⟨b, o, none⟩).run P σ.w = .ok false σ.w := by
      unfold mayBeOne
      have : ∃ v, (stringish ⟨b', o', none⟩).run P σ.w = .ok v σ.w := by
        unfold stringish
        simp only [Sem.run_bind, frozen, Sem.run, Result.andThen_ok, shape, hsb]
        cases σ.w.frozen? ⟨b', o', none⟩ <;> simp [frozen, Sem.run, hsb]
      obtain ⟨v, hv⟩ := this
      have hno : (match σ.w.shape? b with | some (_, 0) => true | _ => false) = false := by
        rw [hsh]
        generalize hq : (E.flat zs).toArray.size = q at hpos
        match q, hpos with
        | q + 1, _ => rfl
      simp only [Sem.run_bind, hv, hst, Result.andThen_ok]
      cases v
      · simp [Sem.run]
      · have hq : ∃ q, (E.flat zs).toArray.size = q + 1 := ⟨(E.flat zs).toArray.size - 1, by omega⟩
        obtain ⟨q, hq⟩ := hq
        rw [hq] at hsh
        simp [shape, Sem.run, hsh, hsb]
    have hnv : ∀ y z, σ.w.shape? y = some z → ∀ o, (noView ⟨y, o, none⟩).run P σ.w = .ok () σ.w := by
      intro y z hy o
      simp [noView, viewAt, shape, Sem.run, hy]
    rw [hB, hc]
    conv => lhs; arg 2; whnf
    simp only [hp, Sem.run_bind, Sem.run_pure, run_underlying ut.h, Result.andThen_ok, ti.ti.run_sizeOf]
    rw [if_neg (by simp [hm, hk0, hnz])]
    simp [hne, hsb, hsh, frozen, Sem.run, hfz, hnv b' _ hsb, hnv b _ hsh, hm1]
  by_cases hm : m = 0
  · subst hm
    cases B <;> cases hc : cutA E A l u c1 <;> (conv => lhs; arg 2; whnf) <;> simp [hp, run_underlying ut.h, ti.ti.run_sizeOf]
  · by_cases hk0 : k = 0
    · subst hk0
      cases B <;> cases hc : cutA E A l u c1 <;> (conv => lhs; arg 2; whnf) <;> simp [hp, run_underlying ut.h, ti.ti.run_sizeOf]
    · rcases s.rd with h0 | ⟨b', o', hB, _⟩
      · omega
      rcases r.full with ⟨ea, hc0⟩ | ⟨b, zs, ea, _⟩
      · omega
      · have : ∃ o, cutA E A l u c1 = some ⟨b, o, none⟩ := by
          rw [ea]; unfold cutA; split
          · exact ⟨0, rfl⟩
          · exact ⟨0 + l * E.sz, by simp [add_at]⟩
        obtain ⟨o, hc⟩ := this
        exact key b o o' b' hB ea hc hm hk0
end
end Go.Proofs.Ythdhnkgnbdociaa
