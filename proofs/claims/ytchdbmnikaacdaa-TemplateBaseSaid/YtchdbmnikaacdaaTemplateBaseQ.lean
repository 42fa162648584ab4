/- The statement TemplateBase is proved: a coinbase claims the subsidy and the fees, is one, and may be, as long as that is money. Condition: none. -/
import Derived.Test.YtchdbmnikaacdaaBu1
import Derived.Test.YtchdbmnikaacdaaBu2
import Derived.Test.YtchdbmnikaacdaaBu3
set_option linter.all false
namespace Go.Proofs.Ytchdbmnikaacdaa
open Go Go.RowKit Go.ChangeShapes Go.WideShapes Go.ChangeAt
set_option maxRecDepth 100000 in
theorem templateBase_lifted (os : Os) (started : os.Started) (H : Type) (enc : TypeId × Value → H) :
    ReturnsInHanded {} Try.checked os 3 .any (Rows.templateBaseSpec.pre6 enc Try.prog Try.f3 Rows.templateBaseRow.domain false) (Rows.templateBaseSpec.post enc Try.prog Try.f3 false true false false) := by
  refine returnsInHanded_of_change (C := Try.checked) own_ started (by kernel_rfl) Try.func3
    (ChangeSpec.witness6 (enc := enc) (C := Try.checked) false ⟨#[], #[.int .u32 0, .agg (Array.replicate 32 (.int .u8 0)), .int .u32 0], []⟩ 8 (by kernel_rfl) (by kernel_rfl) (by kernel_rfl) (by kernel_rfl)) ?_
  intro W base args ds gs before hval0 hW hcnd _
  have hval : ∀ (j : Nat) t v, Try.f3.params[j]? = some t → args[j]? = some v → Value.okWide Try.prog W .any base t v := hval0
  have hW' := hW
  obtain ⟨p, q, hA0, hV, rfl, hfz, hnd⟩ := hW
  have hA : DataW.TrodAll enc Try.prog W 0 (fun _ => true) true Try.f3.params.toList args.toList ds p := hA0
  rw [Try.params3] at hA hval
  obtain ⟨v0, vs0, d0, ds0, p0, q0, hargs, rfl, rfl, h0, r0⟩ := trodAll_cons hA
  obtain ⟨v1, vs1, d1, ds1, p1, q1, rfl, rfl, rfl, h1, r1⟩ := trodAll_cons r0
  obtain ⟨v2, vs2, d2, ds2, p2, q2, rfl, rfl, rfl, h2, r2⟩ := trodAll_cons r1
  obtain ⟨rfl, rfl, rfl⟩ := trodAll_nil r2
  obtain rfl : args = #[v0, v1, v2] := by cases args; simp_all
  obtain ⟨rfl, rfl⟩ := trodVars_none hV
  have lt0 : ∀ x ∈ p0, x.block < W.heap.size := by obtain ⟨m, hm⟩ := h0; exact DataW.trod_lt m _ _ _ hm
  have lt1 : ∀ x ∈ p1, x.block < W.heap.size := by obtain ⟨m, hm⟩ := h1; exact DataW.trod_lt m _ _ _ hm
  have lt2 : ∀ x ∈ p2, x.block < W.heap.size := by obtain ⟨m, hm⟩ := h2; exact DataW.trod_lt m _ _ _ hm
  obtain ⟨z0, rfl, f0, y0, hz0⟩ := open_int1 (inferInstance : U Try.prog 22 _).h (hval 0 22 v0 rfl rfl) h0
  obtain ⟨x0, ex0⟩ := u32_of_trod (inferInstance : U Try.prog 22 _).h hz0
  obtain rfl : z0 = _ := by injection ex0 with e; injection e
  obtain ⟨x1, rfl⟩ := open_key (hval 1 24 v1 rfl rfl) h1
  obtain ⟨z2, rfl, f2, y2, hz2⟩ := open_int1 (inferInstance : U Try.prog 22 _).h (hval 2 22 v2 rfl rfl) h2
  obtain ⟨x2, ex2⟩ := u32_of_trod (inferInstance : U Try.prog 22 _).h hz2
  obtain rfl : z2 = _ := by injection ex2 with e; injection e
  refine (law_of_rule (P := Try.prog) (g := 3) (args := [.int .u32 (x0.toNat : Int), .agg (kc x1), .int .u32 (x2.toNat : Int)]) (W := W) inferInstance).mono fun e W' ⟨he, bel⟩ => ?_
  subst he
  exact ⟨_, rfl, _, _, _, [], _, [], hW', trodAll_mk1 (shut_bool (inferInstance : U Try.prog 4 _).h _), (trodAll_cons_mk (Below.trod laidOut_ (by kernel_rfl) (of_decide_eq_true (by kernel_rfl)) h0 bel lt0) (trodAll_cons_mk (Below.trod laidOut_ (by kernel_rfl) (of_decide_eq_true (by kernel_rfl)) h1 bel lt1) (trodAll_cons_mk (Below.trod laidOut_ (by kernel_rfl) (of_decide_eq_true (by kernel_rfl)) h2 bel lt2) trodAll_mk0))), rfl, bel.frame _, fun h => by cases h⟩
/-- the statement -/
theorem templateBase_proved : Rows.TemplateBaseSaid :=
  OpenClaim.holds_of_wide 3 Try.f3 rfl rfl rfl rfl rfl rfl rfl ⟨rfl, rfl, rfl, rfl, rfl⟩ rfl rfl rfl rfl rfl (by kernel_rfl) Try.func3 (by kernel_rfl)
    (of_decide_eq_true (by kernel_rfl)) (by unfold Func.isWrapper; first | (rw [if_pos (by decide +kernel)]; kernel_rfl) | (rw [if_neg (by decide +kernel)]; exact ⟨rfl, rfl⟩))
    (fun os started H enc _ => templateBase_lifted os started H enc)
#print axioms templateBase_proved
end Go.Proofs.Ytchdbmnikaacdaa
