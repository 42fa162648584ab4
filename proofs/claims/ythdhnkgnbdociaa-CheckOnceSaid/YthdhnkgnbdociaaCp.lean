/- copy into a row of the call's own. No condition. -/
import Derived.Test.YthdhnkgnbdociaaSm
set_option linter.all false
namespace Go.Proofs.Ythdhnkgnbdociaa
open Go Go.RowKit
section
variable {P : Program} {f : Fr} {σ σ' : St} {ty : TypeId} {A B : Option Addr} {n m c d : Nat} {α : Type} {E : Elem α} {xs ys : List α} {t t' e : TypeId} {bytes : Nat}
instance Step.copy {x y : Operand} [h : Ev f x (.slice A n c)] [g : Ev f y (.slice B m d)] [r : Row σ A n c e E xs] [s : Rd σ B m d E ys] [u : U P t (.slice e)] [eo : ElemOf P e E bytes] :
    Step P (.call { callee := .builtin .copy, args := #[x, y], argTypes := #[t, t'] }) ty f σ
      (fun K _ => ∀ σ' : St, Nx σ σ' (.row A e) → Row σ' A n c e E (ys.take (min m n) ++ xs.drop (min m n)) → K (.int .i64 ((min m n : Nat) : Int)) σ') := ⟨fun K E' hK => by
  have hlen := r.len
  have hl2 := s.len
  have hcells : ∀ w, w = σ.w → (Builtin.firstCells E.sz (min m n) (.slice B m d)).run P w = .ok (E.flat (ys.take (min m n))).toArray w := by
    rintro w rfl
    rcases s.rd with h0 | ⟨b, o, ha, hc⟩
    · have : ys = [] := List.eq_nil_of_length_eq_zero (by omega)
      subst this
      have hm0 : min m n = 0 := by omega
      cases B with
      | none => simp [Builtin.firstCells, Elem.flat]
      | some ad => simp [Builtin.firstCells, hm0, loadCells, loadCellsFrom, Elem.flat]
    · subst ha
      have hl : (E.flat (ys.take (min m n))).length = min m n * E.sz := by rw [E.flat_length]; congr 1; simp; omega
      have := run_loadCells_list (P := P) σ.w ⟨b, o, none⟩ (E.flat (ys.take (min m n))) (fun j v hj => by
        rw [add_at]
        rw [← E.flat_take, List.getElem?_take] at hj
        split at hj
        · exact hc j v hj
        · cases hj)
      rw [hl] at this
      simpa [Builtin.firstCells] using this
  have hle := r.le
  rcases r.full with ⟨ea, hc0⟩ | ⟨b, zs, ea, hh, hzl, hzt, hzok⟩
  · have hn : n = 0 := by omega
    subst ea; subst hc0; subst hn
    have hr : (execOp (evo f) ⟨none, .call { callee := .builtin .copy, args := #[x, y], argTypes := #[t, t'] }, ty, "", #[], none⟩).run P σ.w = .ok (.value (.int .i64 ((min m 0 : Nat) : Int))) σ.w := by
      have := hcells σ.w rfl
      simp [execOp, resolve, h.eq, g.eq, invoke, builtin, Builtin.copy_, run_underlying u.h, Builtin.lenOf, eo.ti.run_sizeOf, goInt] at this ⊢
      simp [this]
    unfold OpW; rw [hr]
    exact ⟨σ, rfl, hK σ ⟨⟨rfl, rfl, rfl, Nat.le_refl _, fun _ _ _ => rfl, fun _ _ h => h, fun _ _ _ => ⟨rfl, id⟩, nofun⟩⟩ (by simpa using r)⟩
  · have e6 : (ys.take (min m n)).length = min m n := by simp; omega
    have hsp := flat_splice E zs (ys.take (min m n)) 0 (by omega)
    obtain ⟨σ', hw, hnx, hrow⟩ := r.set_ (n' := n) (zs' := zs.take 0 ++ ys.take (min m n) ++ zs.drop (0 + (ys.take (min m n)).length)) (ys := ys.take (min m n) ++ xs.drop (min m n)) ea hh (by simp; omega) (by
      rw [e6, List.take_zero, List.nil_append, Nat.zero_add, List.take_append, e6, List.take_of_length_le (by omega), ← hzt, List.drop_take]) hle (fun z hz => by
      rcases List.mem_append.1 hz with h | h
      · rcases List.mem_append.1 h with h | h
        · simp at h
        · exact s.ok z (List.mem_of_mem_take h)
      · exact hzok z (List.mem_of_mem_drop h))
    have hst := run_storeCells_at (P := P) b 0 e (E.flat (ys.take (min m n))) 0 (E.flat zs).toArray σ.w hh (by rw [E.flat_length, E.flat_size, e6, Nat.add_zero, Nat.zero_add]; exact Nat.mul_le_mul_right _ (by omega)) (E.flat_one)
    have hr : (execOp (evo f) ⟨none, .call { callee := .builtin .copy, args := #[x, y], argTypes := #[t, t'] }, ty, "", #[], none⟩).run P σ.w = .ok (.value (.int .i64 ((min m n : Nat) : Int))) (σ.w.setRow b (E.flat (zs.take 0 ++ ys.take (min m n) ++ zs.drop (0 + (ys.take (min m n)).length))).toArray) := by
      have h3 := hcells σ.w rfl
      subst ea
      rw [← hsp]
      simp only [Nat.zero_mul, Nat.zero_add] at hst ⊢
      simp only [execOp, resolve, List.map_toArray, List.map_cons, List.map_nil, h.eq, g.eq, Sem.run_bind, Sem.run_pure, Result.andThen_ok, invoke, builtin, Builtin.copy_]
      simp [run_underlying u.h, Builtin.lenOf, eo.ti.run_sizeOf, goInt, show Nat.min m n = min m n from rfl, h3, hst]
    unfold OpW; rw [hr]
    exact ⟨σ', hw, hK σ' ⟨hnx⟩ hrow⟩⟩
end
end Go.Proofs.Ythdhnkgnbdociaa
