/- The statement CheckOnce is proved: of what may be nothing is spent twice in it; with something that it spends put there again it may not be. Condition: none. -/
import Derived.Test.YthdhnkgnbdociaaH8
import Derived.Test.YthdhnkgnbdociaaFo
set_option linter.all false
namespace Go.Proofs.Ythdhnkgnbdociaa
open Go Go.RowKit Go.ChangeShapes Go.WideShapes Go.ChangeAt
set_option maxRecDepth 100000 in
theorem checkOnce_lifted (os : Os) (started : os.Started) (H : Type) (enc : TypeId × Value → H) :
    ReturnsInHanded {} Try.checked os 3 .any (Rows.checkOnceSpec.pre6 enc Try.prog Try.f3 Rows.checkOnceRow.domain false) (Rows.checkOnceSpec.post enc Try.prog Try.f3 false true false false) := by
  refine returnsInHanded_of_change (C := Try.checked) own_ started (by kernel_rfl) Try.func3
    (ChangeSpec.witness6 (enc := enc) (C := Try.checked) false ⟨#[], #[.agg (#[.int .u32 0, .slice none 0 0, .slice none 0 0] ++ Array.replicate 32 (.int .u8 0) ++ #[.slice none 0 0, .slice none 0 0, .int .i64 0]), .int .u8 0], []⟩ 8 (by kernel_rfl) (by kernel_rfl) (by kernel_rfl) (by kernel_rfl)) ?_
  intro W base args ds gs before hval0 hW hcnd _
  have hval : ∀ (j : Nat) t v, Try.f3.params[j]? = some t → args[j]? = some v → Value.okWide Try.prog W .any base t v := hval0
  have hW' := hW
  obtain ⟨p, q, hA0, hV, rfl, hfz, hnd⟩ := hW
  have hA : DataW.TrodAll enc Try.prog W 0 (fun _ => true) true Try.f3.params.toList args.toList ds p := hA0
  rw [Try.params3] at hA hval
  obtain ⟨v0, vs0, d0, ds0, p0, q0, hargs, rfl, rfl, h0, r0⟩ := trodAll_cons hA
  obtain ⟨v1, vs1, d1, ds1, p1, q1, rfl, rfl, rfl, h1, r1⟩ := trodAll_cons r0
  obtain ⟨rfl, rfl, rfl⟩ := trodAll_nil r1
  obtain rfl : args = #[v0, v1] := by cases args; simp_all
  obtain ⟨rfl, rfl⟩ := trodVars_none hV
  have lt0 : ∀ x ∈ p0, x.block < W.heap.size := by obtain ⟨m, hm⟩ := h0; exact DataW.trod_lt m _ _ _ hm
  have lt1 : ∀ x ∈ p1, x.block < W.heap.size := by obtain ⟨m, hm⟩ := h1; exact DataW.trod_lt m _ _ _ hm
  obtain ⟨x0, rfl, hok0⟩ := open_struct (E := txE) (inferInstance : U Try.prog 29 _).h (fun _ => rfl) open_tx_29 (hval 0 29 v0 rfl rfl) h0
  haveI : OkE (st0 W) txE x0 := ⟨hok0⟩
  obtain ⟨x1, rfl⟩ := open_u8 (hval 1 5 v1 rfl rfl) h1
  refine (law_of_rule (P := Try.prog) (g := 3) (args := [.agg (cats [#[.int .u32 (x0.exp.toNat : Int)], #[.slice x0.ins.A x0.ins.n x0.ins.c], #[.slice x0.outs.A x0.outs.n x0.outs.c], kc x0.anchor, #[.slice x0.nulls.A x0.nulls.n x0.nulls.c], #[.slice x0.notes.A x0.notes.n x0.notes.c], #[.int .i64 x0.bal.toInt]]), .int .u8 (x1.toNat : Int)]) (W := W) inferInstance).mono fun e W' ⟨he, bel⟩ => ?_
  subst he
  exact ⟨_, rfl, _, _, _, [], _, [], hW', trodAll_mk1 (shut_bool (inferInstance : U Try.prog 4 _).h _), (trodAll_cons_mk (Below.trod laidOut_ (by kernel_rfl) (of_decide_eq_true (by kernel_rfl)) h0 bel lt0) (trodAll_cons_mk (Below.trod laidOut_ (by kernel_rfl) (of_decide_eq_true (by kernel_rfl)) h1 bel lt1) trodAll_mk0)), rfl, bel.frame _, fun h => by cases h⟩
/-- the statement -/
theorem checkOnce_proved : Rows.CheckOnceSaid :=
  OpenClaim.holds_of_wide 3 Try.f3 rfl rfl rfl rfl rfl rfl rfl ⟨rfl, rfl, rfl, rfl, rfl⟩ rfl rfl rfl rfl rfl (by kernel_rfl) Try.func3 (by kernel_rfl)
    (of_decide_eq_true (by kernel_rfl)) (by unfold Func.isWrapper; first | (rw [if_pos (by decide +kernel)]; kernel_rfl) | (rw [if_neg (by decide +kernel)]; exact ⟨rfl, rfl⟩))
    (fun os started H enc _ => checkOnce_lifted os started H enc)
#print axioms checkOnce_proved
end Go.Proofs.Ythdhnkgnbdociaa
