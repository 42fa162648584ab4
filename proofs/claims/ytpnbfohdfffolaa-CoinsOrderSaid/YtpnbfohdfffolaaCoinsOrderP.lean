/- The statement CoinsOrder is proved: of two points one is less, or they are the same; by their transactions first. Condition: none. -/
import Derived.Test.YtpnbfohdfffolaaC6
import Derived.Test.YtpnbfohdfffolaaFo
set_option linter.all false
namespace Go.Proofs.Ytpnbfohdfffolaa
open Go Go.RowKit Go.ChangeShapes Go.WideShapes Go.ChangeAt
set_option maxRecDepth 100000 in
theorem coinsOrder_lifted (os : Os) (started : os.Started) (H : Type) (enc : TypeId × Value → H) :
    ReturnsInHanded {} Try.checked os 4 .any (Rows.coinsOrderSpec.pre6 enc Try.prog Try.f4 Rows.coinsOrderRow.domain false) (Rows.coinsOrderSpec.post enc Try.prog Try.f4 false true false false) := by
  refine returnsInHanded_of_change (C := Try.checked) own_ started (by kernel_rfl) Try.func4
    (ChangeSpec.witness6 (enc := enc) (C := Try.checked) false ⟨#[], #[.agg (Array.replicate 32 (.int .u8 0) ++ #[.int .u32 0]), .agg (Array.replicate 32 (.int .u8 0) ++ #[.int .u32 0]), .agg (Array.replicate 32 (.int .u8 0) ++ #[.int .u32 0])], []⟩ 8 (by kernel_rfl) (by kernel_rfl) (by kernel_rfl) (by kernel_rfl)) ?_
  intro W base args ds gs before hval0 hW hcnd _
  have hval : ∀ (j : Nat) t v, Try.f4.params[j]? = some t → args[j]? = some v → Value.okWide Try.prog W .any base t v := hval0
  have hW' := hW
  obtain ⟨p, q, hA0, hV, rfl, hfz, hnd⟩ := hW
  have hA : DataW.TrodAll enc Try.prog W 0 (fun _ => true) true Try.f4.params.toList args.toList ds p := hA0
  rw [Try.params4] at hA hval
  obtain ⟨v0, vs0, d0, ds0, p0, q0, hargs, rfl, rfl, h0, r0⟩ := trodAll_cons hA
  obtain ⟨v1, vs1, d1, ds1, p1, q1, rfl, rfl, rfl, h1, r1⟩ := trodAll_cons r0
  obtain ⟨v2, vs2, d2, ds2, p2, q2, rfl, rfl, rfl, h2, r2⟩ := trodAll_cons r1
  obtain ⟨rfl, rfl, rfl⟩ := trodAll_nil r2
  obtain rfl : args = #[v0, v1, v2] := by cases args; simp_all
  obtain ⟨rfl, rfl⟩ := trodVars_none hV
  have lt0 : ∀ x ∈ p0, x.block < W.heap.size := by obtain ⟨m, hm⟩ := h0; exact DataW.trod_lt m _ _ _ hm
  have lt1 : ∀ x ∈ p1, x.block < W.heap.size := by obtain ⟨m, hm⟩ := h1; exact DataW.trod_lt m _ _ _ hm
  have lt2 : ∀ x ∈ p2, x.block < W.heap.size := by obtain ⟨m, hm⟩ := h2; exact DataW.trod_lt m _ _ _ hm
  obtain ⟨x0, rfl, hok0⟩ := open_struct (E := ptE) (inferInstance : U Try.prog 34 _).h (fun _ => rfl) open_pt_34 (hval 0 34 v0 rfl rfl) h0
  haveI : OkE (st0 W) ptE x0 := ⟨hok0⟩
  obtain ⟨x1, rfl, hok1⟩ := open_struct (E := ptE) (inferInstance : U Try.prog 34 _).h (fun _ => rfl) open_pt_34 (hval 1 34 v1 rfl rfl) h1
  haveI : OkE (st0 W) ptE x1 := ⟨hok1⟩
  obtain ⟨x2, rfl, hok2⟩ := open_struct (E := ptE) (inferInstance : U Try.prog 34 _).h (fun _ => rfl) open_pt_34 (hval 2 34 v2 rfl rfl) h2
  haveI : OkE (st0 W) ptE x2 := ⟨hok2⟩
  refine (law_of_rule (P := Try.prog) (g := 4) (args := [.agg (cats [kc x0.tx, #[.int .u32 (x0.idx.toNat : Int)]]), .agg (cats [kc x1.tx, #[.int .u32 (x1.idx.toNat : Int)]]), .agg (cats [kc x2.tx, #[.int .u32 (x2.idx.toNat : Int)]])]) (W := W) inferInstance).mono fun e W' ⟨he, bel⟩ => ?_
  subst he
  exact ⟨_, rfl, _, _, _, [], _, [], hW', trodAll_mk1 (shut_bool (inferInstance : U Try.prog 4 _).h _), (trodAll_cons_mk (Below.trod laidOut_ (by kernel_rfl) (of_decide_eq_true (by kernel_rfl)) h0 bel lt0) (trodAll_cons_mk (Below.trod laidOut_ (by kernel_rfl) (of_decide_eq_true (by kernel_rfl)) h1 bel lt1) (trodAll_cons_mk (Below.trod laidOut_ (by kernel_rfl) (of_decide_eq_true (by kernel_rfl)) h2 bel lt2) trodAll_mk0))), rfl, bel.frame _, fun h => by cases h⟩
/-- the statement -/
theorem coinsOrder_proved : Rows.CoinsOrderSaid :=
  OpenClaim.holds_of_wide 4 Try.f4 rfl rfl rfl rfl rfl rfl rfl ⟨rfl, rfl, rfl, rfl, rfl⟩ rfl rfl rfl rfl rfl (by kernel_rfl) Try.func4 (by kernel_rfl)
    (of_decide_eq_true (by kernel_rfl)) (by unfold Func.isWrapper; first | (rw [if_pos (by decide +kernel)]; kernel_rfl) | (rw [if_neg (by decide +kernel)]; exact ⟨rfl, rfl⟩))
    (fun os started H enc _ => coinsOrder_lifted os started H enc)
#print axioms coinsOrder_proved
end Go.Proofs.Ytpnbfohdfffolaa
