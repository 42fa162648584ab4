/- The engine, part 11: results of every shape; what can be read as long as nothing turns; methods bound to what they are of. No condition. -/
import Derived.Test.YtlcpjfeomlegpaaSg
set_option linter.all false
namespace Go.Proofs.Ytlcpjfeomlegpaa
open Go Go.RowKit
section
variable {P : Program} {σ σ' σ0 : St} {f : Fr} {fn : Func} {K : KV} {E : KE}
class ResV (P : Program) (σ : St) (f : Fr) (r : ResultVar) (v : outParam Value) : Prop where
  run : ∀ a : Act, fr a = f → (match r with | .tmp t => pure (a.tmps.getD t undef) | .cell p ty => (do loadVar ty (← asAddr (a.tmps.getD p undef))) : Sem Value).run P σ.w = .ok v σ.w
instance ResV.tmp {j : Nat} {v : Value} [h : At f j v] : ResV P σ f (.tmp j) v := ⟨fun a ha => by
  subst ha; have := h.eq; unfold fr at this; simp only [this, Sem.run_pure]⟩
instance ResV.cell {p b : Nat} {ty t0 : TypeId} {cs : Array Value} {agg : Bool} {sz bytes : Nat} {v : Value} [h : At f p (.pointer (some ⟨b, 0, none⟩))] [o : Own σ b t0 cs] [ti : TI P ty agg sz bytes] [l : LoadV cs 0 sz agg v] : ResV P σ f (.cell p ty) v := ⟨fun a ha => by
  subst ha; have := h.eq; unfold fr at this
  have ha : (asAddr (.pointer (some (⟨b, 0, none⟩ : Addr)))) = pure ⟨b, 0, none⟩ := rfl
  simp only [this, ha, Sem.run_bind, Sem.run_pure, Result.andThen_ok, run_loadVar_cells ti (fun j _ => cell_own o.h _) l]⟩
class ResL (P : Program) (σ : St) (f : Fr) (rs : List ResultVar) (vs : outParam (List Value)) : Prop where
  run : ∀ a : Act, fr a = f → (rs.mapM fun r => (match r with | .tmp t => pure (a.tmps.getD t undef) | .cell p ty => (do loadVar ty (← asAddr (a.tmps.getD p undef))) : Sem Value)).run P σ.w = .ok vs σ.w
instance ResL.nil : ResL P σ f [] [] := ⟨fun a _ => by simp⟩
instance ResL.cons {r : ResultVar} {rs : List ResultVar} {v : Value} {vs : List Value} [h : ResV P σ f r v] [g : ResL P σ f rs vs] : ResL P σ f (r :: rs) (v :: vs) := ⟨fun a ha => by
  simp only [List.mapM_cons, Sem.run_bind, h.run a ha, g.run a ha, Result.andThen_ok, Sem.run_pure]⟩
class RetV (vs : List Value) (v : outParam Value) : Prop where
  eq : (if h : vs.toArray.size = 1 then vs.toArray[0] else .tuple vs.toArray) = v
instance RetV.none_ : RetV [] (.tuple #[]) := ⟨rfl⟩
instance RetV.one {v : Value} : RetV [v] v := ⟨rfl⟩
instance RetV.two {a b : Value} {l : List Value} : RetV (a :: b :: l) (.tuple (a :: b :: l).toArray) := ⟨by simp⟩
theorem resL_run {rs : List ResultVar} {vs : List Value} {v : Value} (hr : fn.results = rs.toArray) [h : ResL P σ f rs vs] [r : RetV vs v] (a : Act) (ha : fr a = f) : (results fn a.tmps).run P σ.w = .ok v σ.w := by
  unfold results
  rw [hr, List.mapM_toArray]
  simp only [Sem.run_bind, Sem.run_map, Sem.run_pure]
  refine (congrArg (fun q => Result.andThen (Result.andThen q _) _) (h.run a ha)).trans ?_
  simp only [Result.andThen_ok]
  rw [← r.eq]
class IsEnd (e : Exit) : Prop where
  h : e = .ret ∨ e = .normal
instance : IsEnd .ret := ⟨.inl rfl⟩
instance : IsEnd .normal := ⟨.inr rfl⟩
theorem resN {e : Exit} {rs : List ResultVar} {vs : List Value} {v : Value} [i : IsEnd e] (hr : fn.results = rs.toArray) [h : ResL P σ f rs vs] [r : RetV vs v] (hk : K v σ) : resQ P fn K E e [] f σ :=
  resQ_mk i.h (fun a ha => resL_run hr a ha) ⟨σ, rfl, hk⟩
theorem backN {e : Exit} {rs : List ResultVar} {vs : List Value} {v : Value} [i : IsEnd e] (hr : fn.results = rs.toArray) [h : ResL P σ f rs vs] [r : RetV vs v] [s : Sub σ0 σ] (hk : ∀ σ', Nx σ0 σ' .no → Bk σ0 σ σ' → K v σ') : resQ P fn K E e [] f σ := by
  obtain ⟨σ', hw, hn, hwk⟩ := s.back
  exact resQ_mk i.h (fun a ha => resL_run hr a ha) ⟨σ', hw, hk σ' hn hwk⟩
end
section
variable {P : Program} {σ σ' : St} {f : Fr} {ty : TypeId} {A : Option Addr} {n c : Nat} {α : Type} {E : Elem α} {xs : List α} {t : TypeId}
instance StepV.nilCheck {x : Operand} {a : Addr} [h : Ev f x (.pointer (some a))] : StepV P (.nilCheck x) ty f σ (.pointer (some a)) := ⟨by simp [execOp, h.eq]⟩
instance (priority := low) ValRule.bound {g : FuncId} {fst args cap all1 all : List Value} {S : Tr} [i : Fnc P g] [ap : AppL fst args all1] [ap2 : AppL all1 cap all] [r : CallRule P g all σ S] : ValRule P (.func (.func g) (List.toArray fst) (List.toArray cap)) args σ S :=
  ⟨fun K E h => ⟨_, _, _, rfl, g, rfl, i, by have := r.sound K E h; rw [← ap2.eq, ← ap.eq] at this; simpa using this⟩⟩
/-- what can be read, as long as nothing that was there turns -/
class RdN (σ : St) (A : Option Addr) (n c : outParam Nat) {α : outParam Type} (E : outParam (Elem α)) (xs : outParam (List α)) : Prop where
  h : ∀ σ' : St, NxP σ σ' .no → Rd σ' A n c E xs
instance RdN.ofSL [h : SL σ A n c E xs] : RdN σ A n c E xs := ⟨fun σ' nx => by
  haveI := h.nx nx
  infer_instance⟩
instance RdN.ofRow [h : Row σ A n c t E xs] : RdN σ A n c E xs := ⟨fun σ' nx => by
  haveI := h.lift nx (fun _ _ h => h)
  infer_instance⟩
instance (priority := low) RdN.lift [nx : Nx σ σ' .no] [h : RdN σ A n c E xs] : RdN σ' A n c E xs := ⟨fun σ2 n2 => h.h σ2 (nx.p.comp n2 (fun _ _ h => h))⟩
instance (priority := low) Rd.ofN [h : RdN σ A n c E xs] : Rd σ A n c E xs := h.h σ (NxP.refl σ)
instance RdN.cut {l u : Nat} [h : RdN σ A n c E xs] [a1 : LeN l u] [a2 : LeN u n] : RdN σ (cutA E A l u c) (u - l) (c - l) E ((xs.drop l).take (u - l)) := ⟨fun σ' nx => by
  haveI := h.h σ' nx
  exact Rd.cut⟩
theorem Rd.okAt [Inhabited α] (h : Rd σ A n c E xs) {i : Nat} (hi : i < n) : OkE σ E xs[i]! := ⟨h.ok _ (by rw [getElem!_pos xs i (by rw [h.len]; exact hi)]; exact List.getElem_mem _)⟩
end
end Go.Proofs.Ytlcpjfeomlegpaa
