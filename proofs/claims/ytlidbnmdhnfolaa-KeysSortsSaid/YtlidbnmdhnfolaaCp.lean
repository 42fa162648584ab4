/- copy into a row of the call's own. No condition. -/
import Derived.Test.YtlidbnmdhnfolaaSm
set_option linter.all false
namespace Go.Proofs.Ytlidbnmdhnfolaa
open Go Go.RowKit
section
variable {P : Program} {f : Fr} {σ σ' : St} {ty : TypeId} {A B : Option Addr} {n m c d : Nat} {α : Type} {E : Elem α} {xs ys : List α} {t t' e : TypeId} {bytes : Nat}
/-- the cells of a row from place k on are written by those of a list -/
theorem row_splice {k : Nat} (r : Row σ A n c e E xs) {b : Nat} {cur : Array Value} (hA : A = some ⟨b, 0, none⟩) (hh : σ.w.heap[b]? = some (.cells cur e (0, 0))) (hsz : cur.size = c * E.sz) (hnc : n ≤ c) (hcm : c ≤ maxLen) (hx : cur.toList.take (n * E.sz) = E.flat xs)
    (zs : List α) (hz : ∀ z ∈ zs, E.ok z) (hk : k + zs.length ≤ n) : ∃ σ' : St, σ'.w = σ.w.setRow b (putCells cur (k * E.sz) (E.flat zs).toArray) ∧ Nx σ σ' (.row A e) ∧ Row σ' A n c e E (xs.take k ++ zs ++ xs.drop (k + zs.length)) := by
  have hlen := r.len
  have hM := r.m _ hA
  obtain ⟨σ', hw, hnx, ho⟩ := st_set (σ := σ) (b := b) (t := e) (cs := cur) ⟨hM, hh⟩ (putCells cur (k * E.sz) (E.flat zs).toArray)
  have hfl : (E.flat zs).length = zs.length * E.sz := E.flat_length zs
  have hb1 : k * E.sz + zs.length * E.sz ≤ n * E.sz := by rw [← Nat.add_mul]; exact Nat.mul_le_mul_right _ hk
  have hb2 : n * E.sz ≤ c * E.sz := Nat.mul_le_mul_right _ hnc
  have hcells : (putCells cur (k * E.sz) (E.flat zs).toArray).toList.take (n * E.sz) = E.flat (xs.take k ++ zs ++ xs.drop (k + zs.length)) := by
    rw [E.flat_append, E.flat_append, ← E.flat_take, ← E.flat_drop, ← hx, List.take_take, Nat.min_eq_left (by omega)]
    simp only [putCells, List.toList_toArray, List.size_toArray, hfl]
    have hlt : (cur.toList.take (k * E.sz)).length = k * E.sz := by simp; omega
    rw [List.take_append, List.take_of_length_le (by simp [hfl]; omega)]
    congr 1
    rw [List.drop_take]
    have e1 : (k + zs.length) * E.sz = k * E.sz + zs.length * E.sz := Nat.add_mul _ _ _
    rw [e1]
    congr 1
    simp [hfl]; omega
  have hlx : (xs.take k ++ zs ++ xs.drop (k + zs.length)).length = n := by simp; omega
  refine ⟨σ', hw, ⟨⟨hnx.os, hnx.tape, hnx.output, hnx.size, hnx.imm, hnx.mm, fun q hq hxx => hnx.own q hq (fun e => hxx ⟨_, hA, e.symm⟩), nofun, ?_, nofun⟩⟩, Row.of_own hlx (fun y hy => ?_) ⟨by rw [E.flat_length, hlx], .inr ⟨b, c, _, by rw [hA], Nat.zero_le _, ho.h, hnc, hcm, ?_, hcells⟩⟩ (fun a ha => ?_)⟩
  · intro A2 t2 e2 a ha
    injection e2 with e2 e3
    subst e2; subst e3
    rw [hA] at ha; injection ha with ha; subst ha
    exact ⟨_, _, hh⟩
  · rcases List.mem_append.1 hy with hy | hy
    · rcases List.mem_append.1 hy with hy | hy
      · exact r.ok y (List.mem_of_mem_take hy)
      · exact hz y hy
    · exact r.ok y (List.mem_of_mem_drop hy)
  · simp [putCells, hfl]; omega
  · rw [hA] at ha; injection ha with ha; subst ha; exact ho.m

instance Step.copy {x y : Operand} [h : Ev f x (.slice A n c)] [g : Ev f y (.slice B m d)] [r : Row σ A n c e E xs] [s : Rd σ B m d E ys] [u : U P t (.slice e)] [eo : ElemOf P e E bytes] :
    Step P (.call { callee := .builtin .copy, args := #[x, y], argTypes := #[t, t'] }) ty f σ
      (fun K _ => ∀ σ' : St, Nx σ σ' (.row A e) → Row σ' A n c e E (ys.take (min m n) ++ xs.drop (min m n)) → K (.int .i64 ((min m n : Nat) : Int)) σ') := ⟨fun K E' hK => by
  have hlen := r.len
  have hl2 := s.len
  have hcells : ∀ w, w = σ.w → (Builtin.firstCells E.sz (min m n) (.slice B m d)).run P w = .ok (E.flat (ys.take (min m n))).toArray w := by
    rintro w rfl
    rcases s.rd with h0 | ⟨b, o, ha, hc⟩
    · have : ys = [] := List.eq_nil_of_length_eq_zero (by omega)
      subst this
      have hm0 : min m n = 0 := by omega
      cases B with
      | none => simp [Builtin.firstCells, Elem.flat]
      | some ad => simp [Builtin.firstCells, hm0, loadCells, loadCellsFrom, Elem.flat]
    · subst ha
      have hl : (E.flat (ys.take (min m n))).length = min m n * E.sz := by rw [E.flat_length]; congr 1; simp; omega
      have := run_loadCells_list (P := P) σ.w ⟨b, o, none⟩ (E.flat (ys.take (min m n))) (fun j v hj => by
        rw [add_at]
        rw [← E.flat_take, List.getElem?_take] at hj
        split at hj
        · exact hc j v hj
        · cases hj)
      rw [hl] at this
      simpa [Builtin.firstCells] using this
  obtain ⟨hfl, h1⟩ := r.own
  rcases h1 with ⟨e1, hn⟩ | ⟨b, cap, cur, e1, _, hh, hnc, hcm, hsz, hx⟩
  · injection e1 with ea _ ec
    subst ea; subst ec; subst hn
    have hr : (execOp (evo f) ⟨none, .call { callee := .builtin .copy, args := #[x, y], argTypes := #[t, t'] }, ty, "", #[], none⟩).run P σ.w = .ok (.value (.int .i64 ((min m 0 : Nat) : Int))) σ.w := by
      have := hcells σ.w rfl
      simp [execOp, resolve, h.eq, g.eq, invoke, builtin, Builtin.copy_, run_underlying u.h, Builtin.lenOf, eo.ti.run_sizeOf, goInt] at this ⊢
      simp [this]
    unfold OpW; rw [hr]
    refine ⟨σ, rfl, hK σ ⟨⟨rfl, rfl, rfl, Nat.le_refl _, fun _ _ _ => rfl, fun _ _ h => h, fun _ _ _ => ⟨rfl, id⟩, nofun, ?_, nofun⟩⟩ (by simpa using r)⟩
    intro A2 t2 e2 a ha
    injection e2 with e2 _
    subst e2; cases ha
  · injection e1 with ea _ ec
    subst ec
    obtain ⟨σ', hw, hnx, hrow⟩ := row_splice (k := 0) r ea hh hsz hnc hcm hx (ys.take (min m n)) (fun z hz => s.ok z (List.mem_of_mem_take hz)) (by simp; omega)
    have hb1 : min m n * E.sz ≤ n * E.sz := Nat.mul_le_mul_right _ (Nat.min_le_right _ _)
    have hb2 : n * E.sz ≤ c * E.sz := Nat.mul_le_mul_right _ hnc
    have hfz : (E.flat (ys.take (min m n))).length = min m n * E.sz := by rw [E.flat_length]; congr 1; simp; omega
    have hst := run_storeCells_at (P := P) b 0 e (E.flat (ys.take (min m n))) 0 cur σ.w hh (by rw [hfz]; omega) (E.flat_one)
    have hr : (execOp (evo f) ⟨none, .call { callee := .builtin .copy, args := #[x, y], argTypes := #[t, t'] }, ty, "", #[], none⟩).run P σ.w = .ok (.value (.int .i64 ((min m n : Nat) : Int))) (σ.w.setRow b (putCells cur (0 * E.sz) (E.flat (ys.take (min m n))).toArray)) := by
      have h3 := hcells σ.w rfl
      subst ea
      have e5 : putCells cur (0 * E.sz) (E.flat (ys.take (min m n))).toArray = (cur.toList.take (0 + 0) ++ E.flat (ys.take (min m n)) ++ cur.toList.drop (0 + 0 + (E.flat (ys.take (min m n))).length)).toArray := by simp [putCells]
      rw [e5]
      simp only [execOp, resolve, List.map_toArray, List.map_cons, List.map_nil, h.eq, g.eq, Sem.run_bind, Sem.run_pure, Result.andThen_ok, invoke, builtin, Builtin.copy_]
      simp [run_underlying u.h, Builtin.lenOf, eo.ti.run_sizeOf, goInt, show Nat.min m n = min m n from rfl, h3, hst]
    unfold OpW; rw [hr]
    refine ⟨σ', by simpa using hw, hK σ' hnx ?_⟩
    have e6 : (ys.take (min m n)).length = min m n := by simp; omega
    simpa [e6] using hrow⟩
end
end Go.Proofs.Ytlidbnmdhnfolaa
