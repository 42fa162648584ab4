/- The statement CoinsTells is proved: what any coins become by any transaction, and back, which one stands at a point, and whether it is ripe, is the document's, or its error. Condition: none. -/
import Derived.Test.YtpnbfohdfffolaaCa
import Derived.Test.YtpnbfohdfffolaaFo
set_option linter.all false
namespace Go.Proofs.Ytpnbfohdfffolaa
open Go Go.RowKit Go.ChangeShapes Go.WideShapes Go.ChangeAt
set_option maxRecDepth 100000 in
theorem coinsTells_lifted (os : Os) (started : os.Started) (H : Type) (enc : TypeId × Value → H) :
    ReturnsInHanded {} Try.checked os 8 .any (Rows.coinsTellsSpec.pre6 enc Try.prog Try.f8 Rows.coinsTellsRow.domain false) (Rows.coinsTellsSpec.post enc Try.prog Try.f8 false true false false) := by
  refine returnsInHanded_of_change (C := Try.checked) own_ started (by kernel_rfl) Try.func8
    (ChangeSpec.witness6 (enc := enc) (C := Try.checked) false ⟨#[], #[.slice none 0 0, .agg (#[.int .u32 0, .slice none 0 0, .slice none 0 0] ++ Array.replicate 32 (.int .u8 0) ++ #[.slice none 0 0, .slice none 0 0, .int .i64 0]), .agg (Array.replicate 32 (.int .u8 0)), .int .u32 0, .slice none 0 0, .agg (Array.replicate 32 (.int .u8 0) ++ #[.int .u32 0]), .agg (Array.replicate 32 (.int .u8 0) ++ #[.int .u32 0])], []⟩ 8 (by kernel_rfl) (by kernel_rfl) (by kernel_rfl) (by kernel_rfl)) ?_
  intro W base args ds gs before hval0 hW hcnd _
  have hval : ∀ (j : Nat) t v, Try.f8.params[j]? = some t → args[j]? = some v → Value.okWide Try.prog W .any base t v := hval0
  have hW' := hW
  obtain ⟨p, q, hA0, hV, rfl, hfz, hnd⟩ := hW
  have hA : DataW.TrodAll enc Try.prog W 0 (fun _ => true) true Try.f8.params.toList args.toList ds p := hA0
  rw [Try.params8] at hA hval
  obtain ⟨v0, vs0, d0, ds0, p0, q0, hargs, rfl, rfl, h0, r0⟩ := trodAll_cons hA
  obtain ⟨v1, vs1, d1, ds1, p1, q1, rfl, rfl, rfl, h1, r1⟩ := trodAll_cons r0
  obtain ⟨v2, vs2, d2, ds2, p2, q2, rfl, rfl, rfl, h2, r2⟩ := trodAll_cons r1
  obtain ⟨v3, vs3, d3, ds3, p3, q3, rfl, rfl, rfl, h3, r3⟩ := trodAll_cons r2
  obtain ⟨v4, vs4, d4, ds4, p4, q4, rfl, rfl, rfl, h4, r4⟩ := trodAll_cons r3
  obtain ⟨v5, vs5, d5, ds5, p5, q5, rfl, rfl, rfl, h5, r5⟩ := trodAll_cons r4
  obtain ⟨v6, vs6, d6, ds6, p6, q6, rfl, rfl, rfl, h6, r6⟩ := trodAll_cons r5
  obtain ⟨rfl, rfl, rfl⟩ := trodAll_nil r6
  obtain rfl : args = #[v0, v1, v2, v3, v4, v5, v6] := by cases args; simp_all
  obtain ⟨rfl, rfl⟩ := trodVars_none hV
  have lt0 : ∀ x ∈ p0, x.block < W.heap.size := by obtain ⟨m, hm⟩ := h0; exact DataW.trod_lt m _ _ _ hm
  have lt1 : ∀ x ∈ p1, x.block < W.heap.size := by obtain ⟨m, hm⟩ := h1; exact DataW.trod_lt m _ _ _ hm
  have lt2 : ∀ x ∈ p2, x.block < W.heap.size := by obtain ⟨m, hm⟩ := h2; exact DataW.trod_lt m _ _ _ hm
  have lt3 : ∀ x ∈ p3, x.block < W.heap.size := by obtain ⟨m, hm⟩ := h3; exact DataW.trod_lt m _ _ _ hm
  have lt4 : ∀ x ∈ p4, x.block < W.heap.size := by obtain ⟨m, hm⟩ := h4; exact DataW.trod_lt m _ _ _ hm
  have lt5 : ∀ x ∈ p5, x.block < W.heap.size := by obtain ⟨m, hm⟩ := h5; exact DataW.trod_lt m _ _ _ hm
  have lt6 : ∀ x ∈ p6, x.block < W.heap.size := by obtain ⟨m, hm⟩ := h6; exact DataW.trod_lt m _ _ _ hm
  obtain ⟨A0, n0, c0, xs0, rfl, hsl0⟩ := open_sl (E := cnE) (inferInstance : U Try.prog 35 _).h (by kernel_rfl) (open_cn_40) (hval 0 35 v0 rfl rfl) h0
  obtain ⟨x1, rfl, hok1⟩ := open_struct (E := txE) (inferInstance : U Try.prog 32 _).h (fun _ => rfl) open_tx_32 (hval 1 32 v1 rfl rfl) h1
  haveI : OkE (st0 W) txE x1 := ⟨hok1⟩
  obtain ⟨x2, rfl⟩ := open_key (hval 2 23 v2 rfl rfl) h2
  obtain ⟨z3, rfl, f3, y3, hz3⟩ := open_int1 (inferInstance : U Try.prog 28 _).h (hval 3 28 v3 rfl rfl) h3
  obtain ⟨x3, ex3⟩ := u32_of_trod (inferInstance : U Try.prog 28 _).h hz3
  obtain rfl : z3 = _ := by injection ex3 with e; injection e
  obtain ⟨A4, n4, c4, xs4, rfl, hsl4⟩ := open_sl (E := cnE) (inferInstance : U Try.prog 35 _).h (by kernel_rfl) (open_cn_40) (hval 4 35 v4 rfl rfl) h4
  obtain ⟨x5, rfl, hok5⟩ := open_struct (E := ptE) (inferInstance : U Try.prog 34 _).h (fun _ => rfl) open_pt_34 (hval 5 34 v5 rfl rfl) h5
  haveI : OkE (st0 W) ptE x5 := ⟨hok5⟩
  obtain ⟨x6, rfl, hok6⟩ := open_struct (E := ptE) (inferInstance : U Try.prog 34 _).h (fun _ => rfl) open_pt_34 (hval 6 34 v6 rfl rfl) h6
  haveI : OkE (st0 W) ptE x6 := ⟨hok6⟩
  refine (law_of_rule (P := Try.prog) (g := 8) (args := [.slice A0 n0 c0, .agg (cats [#[.int .u32 (x1.exp.toNat : Int)], #[.slice x1.ins.A x1.ins.n x1.ins.c], #[.slice x1.outs.A x1.outs.n x1.outs.c], kc x1.anchor, #[.slice x1.nulls.A x1.nulls.n x1.nulls.c], #[.slice x1.notes.A x1.notes.n x1.notes.c], #[.int .i64 x1.bal.toInt]]), .agg (kc x2), .int .u32 (x3.toNat : Int), .slice A4 n4 c4, .agg (cats [kc x5.tx, #[.int .u32 (x5.idx.toNat : Int)]]), .agg (cats [kc x6.tx, #[.int .u32 (x6.idx.toNat : Int)]])]) (W := W) inferInstance).mono fun e W' ⟨he, bel⟩ => ?_
  subst he
  exact ⟨_, rfl, _, _, _, [], _, [], hW', trodAll_mk1 (shut_bool (inferInstance : U Try.prog 4 _).h _), (trodAll_cons_mk (Below.trod laidOut_ (by kernel_rfl) (of_decide_eq_true (by kernel_rfl)) h0 bel lt0) (trodAll_cons_mk (Below.trod laidOut_ (by kernel_rfl) (of_decide_eq_true (by kernel_rfl)) h1 bel lt1) (trodAll_cons_mk (Below.trod laidOut_ (by kernel_rfl) (of_decide_eq_true (by kernel_rfl)) h2 bel lt2) (trodAll_cons_mk (Below.trod laidOut_ (by kernel_rfl) (of_decide_eq_true (by kernel_rfl)) h3 bel lt3) (trodAll_cons_mk (Below.trod laidOut_ (by kernel_rfl) (of_decide_eq_true (by kernel_rfl)) h4 bel lt4) (trodAll_cons_mk (Below.trod laidOut_ (by kernel_rfl) (of_decide_eq_true (by kernel_rfl)) h5 bel lt5) (trodAll_cons_mk (Below.trod laidOut_ (by kernel_rfl) (of_decide_eq_true (by kernel_rfl)) h6 bel lt6) trodAll_mk0))))))), rfl, bel.frame _, fun h => by cases h⟩
/-- the statement -/
theorem coinsTells_proved : Rows.CoinsTellsSaid :=
  OpenClaim.holds_of_wide 8 Try.f8 rfl rfl rfl rfl rfl rfl rfl ⟨rfl, rfl, rfl, rfl, rfl⟩ rfl rfl rfl rfl rfl (by kernel_rfl) Try.func8 (by kernel_rfl)
    (of_decide_eq_true (by kernel_rfl)) (by unfold Func.isWrapper; first | (rw [if_pos (by decide +kernel)]; kernel_rfl) | (rw [if_neg (by decide +kernel)]; exact ⟨rfl, rfl⟩))
    (fun os started H enc _ => coinsTells_lifted os started H enc)
#print axioms coinsTells_proved
end Go.Proofs.Ytpnbfohdfffolaa
