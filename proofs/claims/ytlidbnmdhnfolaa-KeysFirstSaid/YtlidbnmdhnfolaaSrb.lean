/- The library's stable sort at keys, fewer than twenty; keys.Sort. No condition. -/
import Derived.Test.YtlidbnmdhnfolaaSrt
set_option linter.all false
namespace Go.Proofs.Ytlidbnmdhnfolaa
open Go Go.RowKit
section
variable {σ : St} {A : Option Addr} {n c : Nat} {t : TypeId} {xs : List Key} {fv : Value} {r : Key → Key → Int}
theorem r_stable_small [h : Row σ A n c t keyE xs] [cf : CmpF Try.prog fv keyE r] [w : Weak r] (hn : n < 20) (K : KV) (E : KE) (hK : ∀ σ' ys, Nx σ σ' (.row A t) → Row σ' A n c t keyE ys → SortedSeg r xs 0 n ys → K (.tuple #[]) σ') :
    Calls Try.prog 34 #[.slice A n c, .int .i64 (n : Int), fv] σ.w (fun
    | .returned v, w' => ∃ σ' : St, σ'.w = w' ∧ K v σ'
    | .panicked c, w' => ∃ σ' : St, σ'.w = w' ∧ E c σ'
    | .outgrown, _ => False) := by
  refine calls_enter Try.func34 rfl _ Try.ntmps34 rfl ?_
  (repeat (first | refine then_n ?_ | refine WL.step rfl ?_ | refine WL.nil ?_ | refine WX.pure rfl rfl (fun _ => inferInstance) ?_ | refine WX.light rfl rfl (fun _ _ => inferInstance) ?_ | refine WX.heavy rfl rfl ?_ | refine ⟨fun _ => inferInstance, ?_⟩ | refine ⟨fun h => (h (by decide)).elim, ?_⟩ | refine WX.nil ?_ | refine WC.region ?_ | refine WC.seq ?_ | refine WC.block ?_ | refine WC.ret ?_ | refine WC.exit ?_ | refine WC.skip ?_ | refine WC.condT ?_ | refine WC.condF ?_ | refine then_r ?_ | refine then_e ?_ | refine block_n ?_ | refine block_r ?_ | refine block_hit ?_ | refine block_miss ?_ | refine loop_r ?_ | refine loop_e ?_ | refine WL.step0 ?_ | refine WX.heavy0 rfl ?_ | refine ⟨by omega, ?_⟩ | refine WL.hit rfl rfl ?_ | refine WL.missed rfl rfl rfl rfl ?_ | refine WX.pure_hit rfl rfl rfl rfl (fun _ => inferInstance) ?_ | refine WX.pure_miss rfl rfl rfl rfl rfl ?_ | refine WX.light_hit rfl rfl rfl rfl (fun _ _ => inferInstance) ?_ | refine WX.light_miss rfl rfl rfl rfl rfl ?_ | refine WX.heavy_hit rfl rfl rfl rfl ?_ | refine WX.heavy_miss rfl rfl rfl rfl rfl ?_ | intro _))
  refine WC.loop1 ?_
  (repeat (first | refine then_n ?_ | refine WL.step rfl ?_ | refine WL.nil ?_ | refine WX.pure rfl rfl (fun _ => inferInstance) ?_ | refine WX.light rfl rfl (fun _ _ => inferInstance) ?_ | refine WX.heavy rfl rfl ?_ | refine ⟨fun _ => inferInstance, ?_⟩ | refine ⟨fun h => (h (by decide)).elim, ?_⟩ | refine WX.nil ?_ | refine WC.region ?_ | refine WC.seq ?_ | refine WC.block ?_ | refine WC.ret ?_ | refine WC.exit ?_ | refine WC.skip ?_ | refine WC.condT ?_ | refine WC.condF ?_ | refine then_r ?_ | refine then_e ?_ | refine block_n ?_ | refine block_r ?_ | refine block_hit ?_ | refine block_miss ?_ | refine loop_r ?_ | refine loop_e ?_ | refine WL.step0 ?_ | refine WX.heavy0 rfl ?_ | refine ⟨by omega, ?_⟩ | refine WL.hit rfl rfl ?_ | refine WL.missed rfl rfl rfl rfl ?_ | refine WX.pure_hit rfl rfl rfl rfl (fun _ => inferInstance) ?_ | refine WX.pure_miss rfl rfl rfl rfl rfl ?_ | refine WX.light_hit rfl rfl rfl rfl (fun _ _ => inferInstance) ?_ | refine WX.light_miss rfl rfl rfl rfl rfl ?_ | refine WX.heavy_hit rfl rfl rfl rfl ?_ | refine WX.heavy_miss rfl rfl rfl rfl rfl ?_ | intro _))
  refine WC.cond ?_ ?_ <;> intro hb
  · have := hb; simp at this; omega
  (repeat (first | refine then_n ?_ | refine WL.step rfl ?_ | refine WL.nil ?_ | refine WX.pure rfl rfl (fun _ => inferInstance) ?_ | refine WX.light rfl rfl (fun _ _ => inferInstance) ?_ | refine WX.heavy rfl rfl ?_ | refine ⟨fun _ => inferInstance, ?_⟩ | refine ⟨fun h => (h (by decide)).elim, ?_⟩ | refine WX.nil ?_ | refine WC.region ?_ | refine WC.seq ?_ | refine WC.block ?_ | refine WC.ret ?_ | refine WC.exit ?_ | refine WC.skip ?_ | refine WC.condT ?_ | refine WC.condF ?_ | refine then_r ?_ | refine then_e ?_ | refine block_n ?_ | refine block_r ?_ | refine block_hit ?_ | refine block_miss ?_ | refine loop_r ?_ | refine loop_e ?_ | refine WL.step0 ?_ | refine WX.heavy0 rfl ?_ | refine ⟨by omega, ?_⟩ | refine WL.hit rfl rfl ?_ | refine WL.missed rfl rfl rfl rfl ?_ | refine WX.pure_hit rfl rfl rfl rfl (fun _ => inferInstance) ?_ | refine WX.pure_miss rfl rfl rfl rfl rfl ?_ | refine WX.light_hit rfl rfl rfl rfl (fun _ _ => inferInstance) ?_ | refine WX.light_miss rfl rfl rfl rfl rfl ?_ | refine WX.heavy_hit rfl rfl rfl rfl ?_ | refine WX.heavy_miss rfl rfl rfl rfl rfl ?_ | intro _))
  rename_i s1 ys1 hn1 hr1 hs1
  refine WC.loop1 ?_
  (repeat (first | refine then_n ?_ | refine WL.step rfl ?_ | refine WL.nil ?_ | refine WX.pure rfl rfl (fun _ => inferInstance) ?_ | refine WX.light rfl rfl (fun _ _ => inferInstance) ?_ | refine WX.heavy rfl rfl ?_ | refine ⟨fun _ => inferInstance, ?_⟩ | refine ⟨fun h => (h (by decide)).elim, ?_⟩ | refine WX.nil ?_ | refine WC.region ?_ | refine WC.seq ?_ | refine WC.block ?_ | refine WC.ret ?_ | refine WC.exit ?_ | refine WC.skip ?_ | refine WC.condT ?_ | refine WC.condF ?_ | refine then_r ?_ | refine then_e ?_ | refine block_n ?_ | refine block_r ?_ | refine block_hit ?_ | refine block_miss ?_ | refine loop_r ?_ | refine loop_e ?_ | refine WL.step0 ?_ | refine WX.heavy0 rfl ?_ | refine ⟨by omega, ?_⟩ | refine WL.hit rfl rfl ?_ | refine WL.missed rfl rfl rfl rfl ?_ | refine WX.pure_hit rfl rfl rfl rfl (fun _ => inferInstance) ?_ | refine WX.pure_miss rfl rfl rfl rfl rfl ?_ | refine WX.light_hit rfl rfl rfl rfl (fun _ _ => inferInstance) ?_ | refine WX.light_miss rfl rfl rfl rfl rfl ?_ | refine WX.heavy_hit rfl rfl rfl rfl ?_ | refine WX.heavy_miss rfl rfl rfl rfl rfl ?_ | intro _))
  refine WC.cond ?_ ?_ <;> intro hb
  · have := hb; simp at this; omega
  (repeat (first | refine then_n ?_ | refine WL.step rfl ?_ | refine WL.nil ?_ | refine WX.pure rfl rfl (fun _ => inferInstance) ?_ | refine WX.light rfl rfl (fun _ _ => inferInstance) ?_ | refine WX.heavy rfl rfl ?_ | refine ⟨fun _ => inferInstance, ?_⟩ | refine ⟨fun h => (h (by decide)).elim, ?_⟩ | refine WX.nil ?_ | refine WC.region ?_ | refine WC.seq ?_ | refine WC.block ?_ | refine WC.ret ?_ | refine WC.exit ?_ | refine WC.skip ?_ | refine WC.condT ?_ | refine WC.condF ?_ | refine then_r ?_ | refine then_e ?_ | refine block_n ?_ | refine block_r ?_ | refine block_hit ?_ | refine block_miss ?_ | refine loop_r ?_ | refine loop_e ?_ | refine WL.step0 ?_ | refine WX.heavy0 rfl ?_ | refine ⟨by omega, ?_⟩ | refine WL.hit rfl rfl ?_ | refine WL.missed rfl rfl rfl rfl ?_ | refine WX.pure_hit rfl rfl rfl rfl (fun _ => inferInstance) ?_ | refine WX.pure_miss rfl rfl rfl rfl rfl ?_ | refine WX.light_hit rfl rfl rfl rfl (fun _ _ => inferInstance) ?_ | refine WX.light_miss rfl rfl rfl rfl rfl ?_ | refine WX.heavy_hit rfl rfl rfl rfl ?_ | refine WX.heavy_miss rfl rfl rfl rfl rfl ?_ | intro _))
  exact res0n Try.results34 (hK _ _ inferInstance inferInstance hs1)

instance rule_sortStable [h : Row σ A n c t keyE xs] [cf : CmpF Try.prog fv keyE r] [w : Weak r] :
    CallRule Try.prog 27 [.slice A n c, fv] σ (fun K _ => (n < 20) ∧ ∀ σ' ys, Nx σ σ' (.row A t) → Row σ' A n c t keyE ys → SortedSeg r xs 0 n ys → K (.tuple #[]) σ') := ⟨fun K E hK => by
  haveI : CallRule Try.prog 34 [.slice A n c, .int .i64 (n : Int), fv] σ (fun K _ => ∀ σ' ys, Nx σ σ' (.row A t) → Row σ' A n c t keyE ys → SortedSeg r xs 0 n ys → K (.tuple #[]) σ') := ⟨fun K E h => r_stable_small hK.1 K E h⟩
  refine calls_enter Try.func27 rfl _ Try.ntmps27 rfl ?_
  (repeat (first | refine then_n ?_ | refine WL.step rfl ?_ | refine WL.nil ?_ | refine WX.pure rfl rfl (fun _ => inferInstance) ?_ | refine WX.light rfl rfl (fun _ _ => inferInstance) ?_ | refine WX.heavy rfl rfl ?_ | refine ⟨fun _ => inferInstance, ?_⟩ | refine ⟨fun h => (h (by decide)).elim, ?_⟩ | refine WX.nil ?_ | refine WC.region ?_ | refine WC.seq ?_ | refine WC.block ?_ | refine WC.ret ?_ | refine WC.exit ?_ | refine WC.skip ?_ | refine WC.condT ?_ | refine WC.condF ?_ | refine then_r ?_ | refine then_e ?_ | refine block_n ?_ | refine block_r ?_ | refine block_hit ?_ | refine block_miss ?_ | refine loop_r ?_ | refine loop_e ?_ | refine WL.step0 ?_ | refine WX.heavy0 rfl ?_ | refine ⟨by omega, ?_⟩ | refine WL.hit rfl rfl ?_ | refine WL.missed rfl rfl rfl rfl ?_ | refine WX.pure_hit rfl rfl rfl rfl (fun _ => inferInstance) ?_ | refine WX.pure_miss rfl rfl rfl rfl rfl ?_ | refine WX.light_hit rfl rfl rfl rfl (fun _ _ => inferInstance) ?_ | refine WX.light_miss rfl rfl rfl rfl rfl ?_ | refine WX.heavy_hit rfl rfl rfl rfl ?_ | refine WX.heavy_miss rfl rfl rfl rfl rfl ?_ | intro _))
  rename_i s1 ys1 hn1 hr1 hs1
  exact res0n Try.results27 (hK.2 _ _ inferInstance inferInstance hs1)⟩

instance rule_keys_Sort [h : SL σ A n c keyE xs] :
    CallRule Try.prog 12 [.slice A n c] σ (fun K _ => (n < 20) ∧ ∀ σ' A' c', Nx σ σ' .no → SL σ' A' n c' keyE (ksort xs) → K (.slice A' n c') σ') := ⟨fun K E hK => by
  have hl := h.len
  have hn := hK.1
  refine calls_enter Try.func12 rfl _ Try.ntmps12 rfl ?_
  (repeat (first | refine then_n ?_ | refine WL.step rfl ?_ | refine WL.nil ?_ | refine WX.pure rfl rfl (fun _ => inferInstance) ?_ | refine WX.light rfl rfl (fun _ _ => inferInstance) ?_ | refine WX.heavy rfl rfl ?_ | refine ⟨fun _ => inferInstance, ?_⟩ | refine ⟨fun h => (h (by decide)).elim, ?_⟩ | refine WX.nil ?_ | refine WC.region ?_ | refine WC.seq ?_ | refine WC.block ?_ | refine WC.ret ?_ | refine WC.exit ?_ | refine WC.skip ?_ | refine WC.condT ?_ | refine WC.condF ?_ | refine then_r ?_ | refine then_e ?_ | refine block_n ?_ | refine block_r ?_ | refine block_hit ?_ | refine block_miss ?_ | refine loop_r ?_ | refine loop_e ?_ | refine WL.step0 ?_ | refine WX.heavy0 rfl ?_ | refine ⟨by omega, ?_⟩ | refine WL.hit rfl rfl ?_ | refine WL.missed rfl rfl rfl rfl ?_ | refine WX.pure_hit rfl rfl rfl rfl (fun _ => inferInstance) ?_ | refine WX.pure_miss rfl rfl rfl rfl rfl ?_ | refine WX.light_hit rfl rfl rfl rfl (fun _ _ => inferInstance) ?_ | refine WX.light_miss rfl rfl rfl rfl rfl ?_ | refine WX.heavy_hit rfl rfl rfl rfl ?_ | refine WX.heavy_miss rfl rfl rfl rfl rfl ?_ | intro _))
  rename_i s3 A1 _ hnew _ s2 _ _ s1 ys hn1 hr1 hs1
  have he : ys = ksort xs := by
    have e : List.take (min n n) xs ++ List.drop (min n n) (List.replicate n key0) = xs := by
      rw [Nat.min_self, ← hl, List.take_length, List.drop_eq_nil_of_le (by simp), List.append_nil]
    rw [e] at hs1
    subst hl
    exact hs1.all
  rw [← he] at hK
  exact back1 (σ0 := σ) Try.results12 (fun σ' _ _ => hK.2 σ' _ _ inferInstance inferInstance)⟩
end
end Go.Proofs.Ytlidbnmdhnfolaa
