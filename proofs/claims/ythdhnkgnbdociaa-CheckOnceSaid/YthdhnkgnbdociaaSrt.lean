/- The library's stable sort at keys: insertion, rotation, merging, by contract. No condition. -/
import Derived.Test.YthdhnkgnbdociaaK2
import Derived.Test.YthdhnkgnbdociaaKs
import Derived.Test.YthdhnkgnbdociaaCp
set_option linter.all false
set_option maxHeartbeats 40000000
set_option synthInstance.maxHeartbeats 2000000
set_option synthInstance.maxSize 100000
namespace Go.Proofs.Ythdhnkgnbdociaa
open Go Go.RowKit

instance cmp_keys : CmpF Try.prog (.func (.func 58) #[] #[]) keyE kcmp := ⟨fun σ x y => inferInstance⟩
section
variable {σ : St} {A : Option Addr} {n c : Nat} {t : TypeId} {xs : List Key} {fv : Value} {r : Key → Key → Int}

theorem r_insertion [h : Row σ A n c t keyE xs] [cf : CmpF Try.prog fv keyE r] (w : Weak r) {a b : Nat} (hab : a ≤ b) (hb : b ≤ n) (hbig : n < 4611686018427387904) (K : KV) (E : KE) (hK : ∀ σ' ys, Nx σ σ' (.row A t) → Row σ' A n c t keyE ys → SortedSeg r xs a b ys → K (.tuple #[]) σ') :
    Calls Try.prog 77 #[.slice A n c, .int .i64 (a : Int), .int .i64 (b : Int), fv] σ.w (fun
    | .returned v, w' => ∃ σ' : St, σ'.w = w' ∧ K v σ'
    | .panicked c, w' => ∃ σ' : St, σ'.w = w' ∧ E c σ'
    | .outgrown, _ => False) := by
  have hl := h.len
  refine calls_enter Try.func77 rfl _ Try.ntmps77 rfl ?_
  haveI : Fits .i64 ((a : Int) + 1) := Fits.i64 (by omega) (by omega)
  (repeat (first | refine go ?_ | refine goR ?_ | refine goS (fun yc hyc => ?_) | refine goL (fun _ _ => inferInstance) ?_ | with_reducible intro _ | refine goO (by first | omega | (simp only [List.length_cons, List.length_nil]; omega)) ?_ | fail))
  refine WC.loop (fun (i : Nat) f s => At f 0 (.slice A n c) ∧ At f 1 (.int .i64 (a : Int)) ∧ At f 2 (.int .i64 (b : Int)) ∧ At f 3 fv ∧ At f 8 (.int .i64 (i : Int)) ∧ Nx σ s (.row A t) ∧
      ∃ ys, Row s A n c t keyE ys ∧ a + 1 ≤ i ∧ (a < b → i ≤ b) ∧ ((a < b → InsTo r xs a i ys) ∧ (a = b → ys = xs))) (fun i => b - i) (a + 1)
    ⟨inferInstance, inferInstance, inferInstance, inferInstance, At.to (.int .i64 ((a : Int) + 1)) (by simp), Sx.nx (inferInstance : Sx σ (.row A t) _), xs, inferInstance, Nat.le_refl _, fun h => h, fun hlt => InsTo.start (by omega), fun _ => rfl⟩ ?_
  rintro i f s ⟨a0, a1, a2, a3, a8, hs, ys, hr, hai, hib, hto, heq⟩
  (repeat (first | refine go ?_ | refine goR ?_ | refine goS (fun yc hyc => ?_) | refine goL (fun _ _ => inferInstance) ?_ | with_reducible intro _ | refine goO (by first | omega | (simp only [List.length_cons, List.length_nil]; omega)) ?_ | fail))
  refine WC.cond ?_ ?_ <;> intro hb1
  · have hlt : i < b := by have := hb1; simp at this; omega
    have hab' : a < b := by omega
    have hto := hto hab'
    obtain ⟨s0, hp0, hs0, hl1, hl2, hin⟩ := hto.enter (by omega) (by omega)
    (repeat (first | refine go ?_ | refine goR ?_ | refine goS (fun yc hyc => ?_) | refine goL (fun _ _ => inferInstance) ?_ | with_reducible intro _ | refine goO (by first | omega | (simp only [List.length_cons, List.length_nil]; omega)) ?_ | fail))
    refine WC.loop (fun (j : Nat) f s => At f 0 (.slice A n c) ∧ At f 1 (.int .i64 (a : Int)) ∧ At f 2 (.int .i64 (b : Int)) ∧ At f 3 fv ∧ At f 8 (.int .i64 (i : Int)) ∧ At f 9 (.int .i64 (j : Int)) ∧ Nx σ s (.row A t) ∧
      ∃ zs, Row s A n c t keyE zs ∧ InsAt r (xs.take a) s0 xs[i]! (xs.drop (i + 1)) j zs) (fun j => j) i
      ⟨inferInstance, inferInstance, inferInstance, inferInstance, inferInstance, inferInstance, Sx.nx (inferInstance : Sx σ (.row A t) _), ys, inferInstance, hin⟩ ?_
    rintro j f s ⟨a0, a1, a2, a3, a8, a9, hs, zs, hr, hin⟩
    have hj := hin.le
    have hzl := hin.len
    (repeat (first | refine go ?_ | refine goR ?_ | refine goS (fun yc hyc => ?_) | refine goL (fun _ _ => inferInstance) ?_ | with_reducible intro _ | refine goO (by first | omega | (simp only [List.length_cons, List.length_nil]; omega)) ?_ | fail))
    refine WC.draw [] (.p 0 (.p 1 (.p 2 (.p 3 (.p 4 (.p 5 (.p 6 (.l 7 (.l 8 (.p 9 (.p 10 (.p 11 (.l 12 (.l 13 (.h 14 (.p 15 (.p 16 .nil))))))))))))))))) mixed (by decide +kernel) ?_
    (repeat (first | refine go ?_ | refine goR ?_ | refine goS (fun yc hyc => ?_) | refine goL (fun _ _ => inferInstance) ?_ | with_reducible intro _ | refine goO (by first | omega | (simp only [List.length_cons, List.length_nil]; omega)) ?_ | fail))
    refine WX.partP rfl rfl ?_ ?_ <;> intro hg
    · have hgj : a < j := by have := hg; simp at this; omega
      haveI : IdxLt j n := ⟨by omega⟩
      haveI : IdxLt (j - 1) n := ⟨by omega⟩
      haveI : Fits .i64 ((j : Int) - 1) := Fits.i64 (by omega) (by omega)
      haveI : ToNat ((j : Int) - 1) (j - 1) := ⟨by omega⟩
      haveI : Fits .i64 ((i : Int) + 1) := Fits.i64 (by omega) (by omega)
      (repeat (first | refine go ?_ | refine goR ?_ | refine goS (fun yc hyc => ?_) | refine goL (fun _ _ => inferInstance) ?_ | with_reducible intro _ | refine goO (by first | omega | (simp only [List.length_cons, List.length_nil]; omega)) ?_ | fail))
      refine WC.cond ?_ ?_ <;> intro hc
      · (repeat (first | refine go ?_ | refine goR ?_ | refine goS (fun yc hyc => ?_) | refine goL (fun _ _ => inferInstance) ?_ | with_reducible intro _ | refine goO (by first | omega | (simp only [List.length_cons, List.length_nil]; omega)) ?_ | fail))
        refine WC.draw [15, 17] (.p 0 (.p 1 (.p 2 (.p 3 (.p 4 (.p 5 (.p 6 (.p 7 (.l 8 (.l 9 (.p 10 (.p 11 (.l 12 (.l 13 (.l 14 (.h 15 (.l 16 (.h 17 .nil)))))))))))))))))) mixed (by decide +kernel) ?_
        (repeat (first | refine go ?_ | refine goR ?_ | refine goS (fun yc hyc => ?_) | refine goL (fun _ _ => inferInstance) ?_ | with_reducible intro _ | refine goO (by first | omega | (simp only [List.length_cons, List.length_nil]; omega)) ?_ | fail))
        refine loop_n (j - 1) ⟨inferInstance, inferInstance, inferInstance, inferInstance, inferInstance, At.to (.int .i64 ((j : Int) - 1)) (by congr 1; omega), Sx.nx (inferInstance : Sx σ (.row A t) _), _, inferInstance, ?_⟩ (by omega)
        rw [swp_eq]
        exact hin.step (by omega) (by simpa using hc)
      · (repeat (first | refine go ?_ | refine goR ?_ | refine goS (fun yc hyc => ?_) | refine goL (fun _ _ => inferInstance) ?_ | with_reducible intro _ | refine goO (by first | omega | (simp only [List.length_cons, List.length_nil]; omega)) ?_ | fail))
        refine loop_n (i + 1) ⟨inferInstance, inferInstance, inferInstance, inferInstance, At.to (.int .i64 ((i : Int) + 1)) (by simp), Sx.nx (inferInstance : Sx σ (.row A t) _), zs, inferInstance, by omega, fun _ => by omega, fun _ => InsTo.leave w hp0 hs0 hl1 (by omega) (by omega) hin (.inr ⟨hgj, by simpa using hc⟩), fun e => by omega⟩ (by omega)
    · haveI : Fits .i64 ((i : Int) + 1) := Fits.i64 (by omega) (by omega)
      (repeat (first | refine go ?_ | refine goR ?_ | refine goS (fun yc hyc => ?_) | refine goL (fun _ _ => inferInstance) ?_ | with_reducible intro _ | refine goO (by first | omega | (simp only [List.length_cons, List.length_nil]; omega)) ?_ | fail))
      refine loop_n (i + 1) ⟨inferInstance, inferInstance, inferInstance, inferInstance, At.to (.int .i64 ((i : Int) + 1)) (by simp), Sx.nx (inferInstance : Sx σ (.row A t) _), zs, inferInstance, by omega, fun _ => by omega, fun _ => InsTo.leave w hp0 hs0 hl1 (by omega) (by omega) hin (.inl (by have := hg; simp at this; omega)), fun e => by omega⟩ (by omega)
  · (repeat (first | refine go ?_ | refine goR ?_ | refine goS (fun yc hyc => ?_) | refine goL (fun _ _ => inferInstance) ?_ | with_reducible intro _ | refine goO (by first | omega | (simp only [List.length_cons, List.length_nil]; omega)) ?_ | fail))
    refine res0n Try.results77 (hK _ ys (Sx.nx inferInstance) inferInstance ?_)
    rcases Nat.lt_or_ge a b with hlt | hge
    · have : i = b := by have := hib hlt; have := hb1; simp at this; omega
      subst this; exact hto hlt
    · have : a = b := by omega
      subst this; rw [heq rfl]; exact SortedSeg.none_

instance rule_insertion [h : Row σ A n c t keyE xs] [cf : CmpF Try.prog fv keyE r] [w : Weak r] {ja jb : Int} {a b : Nat} [qa : ToNat ja a] [qb : ToNat jb b] :
    CallRule Try.prog 77 [.slice A n c, .int .i64 ja, .int .i64 jb, fv] σ (fun K _ => (a ≤ b ∧ b ≤ n ∧ n < 4611686018427387904) ∧ ∀ σ' ys, Nx σ σ' (.row A t) → Row σ' A n c t keyE ys → SortedSeg r xs a b ys → K (.tuple #[]) σ') :=
  ⟨fun K E hK => by
    have e1 := qa.eq
    have e2 := qb.eq
    subst e1; subst e2
    exact r_insertion w hK.1.1 hK.1.2.1 hK.1.2.2 K E hK.2⟩
end
end Go.Proofs.Ythdhnkgnbdociaa
