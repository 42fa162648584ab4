/- The statement CoinsKept is proved: coins that a transaction does not spend stay as they are. Condition: none. -/
import Derived.Test.YtpnbfohdfffolaaCc
import Derived.Test.YtpnbfohdfffolaaFo
set_option linter.all false
namespace Go.Proofs.Ytpnbfohdfffolaa
open Go Go.RowKit Go.ChangeShapes Go.WideShapes Go.ChangeAt
set_option maxRecDepth 100000 in
theorem coinsKept_lifted (os : Os) (started : os.Started) (H : Type) (enc : TypeId × Value → H) :
    ReturnsInHanded {} Try.checked os 6 .any (Rows.coinsKeptSpec.pre6 enc Try.prog Try.f6 Rows.coinsKeptRow.domain false) (Rows.coinsKeptSpec.post enc Try.prog Try.f6 false true false false) := by
  refine returnsInHanded_of_change (C := Try.checked) own_ started (by kernel_rfl) Try.func6
    (ChangeSpec.witness6 (enc := enc) (C := Try.checked) false ⟨#[], #[.slice none 0 0, .slice none 0 0, .agg (#[.int .u32 0, .slice none 0 0, .slice none 0 0] ++ Array.replicate 32 (.int .u8 0) ++ #[.slice none 0 0, .slice none 0 0, .int .i64 0]), .agg (Array.replicate 32 (.int .u8 0)), .agg (Array.replicate 32 (.int .u8 0) ++ #[.int .u32 0])], []⟩ 8 (by kernel_rfl) (by kernel_rfl) (by kernel_rfl) (by kernel_rfl)) ?_
  intro W base args ds gs before hval0 hW hcnd _
  have hval : ∀ (j : Nat) t v, Try.f6.params[j]? = some t → args[j]? = some v → Value.okWide Try.prog W .any base t v := hval0
  have hW' := hW
  obtain ⟨p, q, hA0, hV, rfl, hfz, hnd⟩ := hW
  have hA : DataW.TrodAll enc Try.prog W 0 (fun _ => true) true Try.f6.params.toList args.toList ds p := hA0
  rw [Try.params6] at hA hval
  obtain ⟨v0, vs0, d0, ds0, p0, q0, hargs, rfl, rfl, h0, r0⟩ := trodAll_cons hA
  obtain ⟨v1, vs1, d1, ds1, p1, q1, rfl, rfl, rfl, h1, r1⟩ := trodAll_cons r0
  obtain ⟨v2, vs2, d2, ds2, p2, q2, rfl, rfl, rfl, h2, r2⟩ := trodAll_cons r1
  obtain ⟨v3, vs3, d3, ds3, p3, q3, rfl, rfl, rfl, h3, r3⟩ := trodAll_cons r2
  obtain ⟨v4, vs4, d4, ds4, p4, q4, rfl, rfl, rfl, h4, r4⟩ := trodAll_cons r3
  obtain ⟨rfl, rfl, rfl⟩ := trodAll_nil r4
  obtain rfl : args = #[v0, v1, v2, v3, v4] := by cases args; simp_all
  obtain ⟨rfl, rfl⟩ := trodVars_none hV
  have lt0 : ∀ x ∈ p0, x.block < W.heap.size := by obtain ⟨m, hm⟩ := h0; exact DataW.trod_lt m _ _ _ hm
  have lt1 : ∀ x ∈ p1, x.block < W.heap.size := by obtain ⟨m, hm⟩ := h1; exact DataW.trod_lt m _ _ _ hm
  have lt2 : ∀ x ∈ p2, x.block < W.heap.size := by obtain ⟨m, hm⟩ := h2; exact DataW.trod_lt m _ _ _ hm
  have lt3 : ∀ x ∈ p3, x.block < W.heap.size := by obtain ⟨m, hm⟩ := h3; exact DataW.trod_lt m _ _ _ hm
  have lt4 : ∀ x ∈ p4, x.block < W.heap.size := by obtain ⟨m, hm⟩ := h4; exact DataW.trod_lt m _ _ _ hm
  obtain ⟨A0, n0, c0, xs0, rfl, hsl0⟩ := open_sl (E := txE) (inferInstance : U Try.prog 50 _).h (by kernel_rfl) (open_tx_32) (hval 0 50 v0 rfl rfl) h0
  obtain ⟨A1, n1, c1, xs1, rfl, hsl1⟩ := open_keys (hval 1 30 v1 rfl rfl) h1
  obtain ⟨x2, rfl, hok2⟩ := open_struct (E := txE) (inferInstance : U Try.prog 32 _).h (fun _ => rfl) open_tx_32 (hval 2 32 v2 rfl rfl) h2
  haveI : OkE (st0 W) txE x2 := ⟨hok2⟩
  obtain ⟨x3, rfl⟩ := open_key (hval 3 23 v3 rfl rfl) h3
  obtain ⟨x4, rfl, hok4⟩ := open_struct (E := ptE) (inferInstance : U Try.prog 34 _).h (fun _ => rfl) open_pt_34 (hval 4 34 v4 rfl rfl) h4
  haveI : OkE (st0 W) ptE x4 := ⟨hok4⟩
  refine (law_of_rule (P := Try.prog) (g := 6) (args := [.slice A0 n0 c0, .slice A1 n1 c1, .agg (cats [#[.int .u32 (x2.exp.toNat : Int)], #[.slice x2.ins.A x2.ins.n x2.ins.c], #[.slice x2.outs.A x2.outs.n x2.outs.c], kc x2.anchor, #[.slice x2.nulls.A x2.nulls.n x2.nulls.c], #[.slice x2.notes.A x2.notes.n x2.notes.c], #[.int .i64 x2.bal.toInt]]), .agg (kc x3), .agg (cats [kc x4.tx, #[.int .u32 (x4.idx.toNat : Int)]])]) (W := W) inferInstance).mono fun e W' ⟨he, bel⟩ => ?_
  subst he
  exact ⟨_, rfl, _, _, _, [], _, [], hW', trodAll_mk1 (shut_bool (inferInstance : U Try.prog 4 _).h _), (trodAll_cons_mk (Below.trod laidOut_ (by kernel_rfl) (of_decide_eq_true (by kernel_rfl)) h0 bel lt0) (trodAll_cons_mk (Below.trod laidOut_ (by kernel_rfl) (of_decide_eq_true (by kernel_rfl)) h1 bel lt1) (trodAll_cons_mk (Below.trod laidOut_ (by kernel_rfl) (of_decide_eq_true (by kernel_rfl)) h2 bel lt2) (trodAll_cons_mk (Below.trod laidOut_ (by kernel_rfl) (of_decide_eq_true (by kernel_rfl)) h3 bel lt3) (trodAll_cons_mk (Below.trod laidOut_ (by kernel_rfl) (of_decide_eq_true (by kernel_rfl)) h4 bel lt4) trodAll_mk0))))), rfl, bel.frame _, fun h => by cases h⟩
/-- the statement -/
theorem coinsKept_proved : Rows.CoinsKeptSaid :=
  OpenClaim.holds_of_wide 6 Try.f6 rfl rfl rfl rfl rfl rfl rfl ⟨rfl, rfl, rfl, rfl, rfl⟩ rfl rfl rfl rfl rfl (by kernel_rfl) Try.func6 (by kernel_rfl)
    (of_decide_eq_true (by kernel_rfl)) (by unfold Func.isWrapper; first | (rw [if_pos (by decide +kernel)]; kernel_rfl) | (rw [if_neg (by decide +kernel)]; exact ⟨rfl, rfl⟩))
    (fun os started H enc _ => coinsKept_lifted os started H enc)
#print axioms coinsKept_proved
end Go.Proofs.Ytpnbfohdfffolaa
