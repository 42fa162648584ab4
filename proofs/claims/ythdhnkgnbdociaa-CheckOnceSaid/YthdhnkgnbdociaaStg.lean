/- The library's stable sort at keys, of whatever length: exchanges, rotation, by contract. No condition. -/
import Derived.Test.YthdhnkgnbdociaaSr
import Derived.Test.YthdhnkgnbdociaaNu
import Derived.Test.YthdhnkgnbdociaaSrt
set_option linter.all false
set_option maxHeartbeats 20000000
set_option synthInstance.maxHeartbeats 2000000
set_option synthInstance.maxSize 100000
namespace Go.Proofs.Ythdhnkgnbdociaa
open Go Go.RowKit
section
variable {σ : St} {A : Option Addr} {n c : Nat} {t : TypeId} {xs : List Key} {fv : Value} {r : Key → Key → Int}

instance rule_swapRange [h : Row σ A n c t keyE xs] {ja jb jk : Int} {a b k : Nat} [qa : ToNat ja a] [qb : ToNat jb b] [qk : ToNat jk k] :
    CallRule Try.prog 80 [.slice A n c, .int .i64 ja, .int .i64 jb, .int .i64 jk, fv] σ (fun K _ => (a + k ≤ b ∧ b + k ≤ n ∧ n < 4611686018427387904) ∧ ∀ σ', Nx σ σ' (.row A t) → Row σ' A n c t keyE (swpR xs a b k) → K (.tuple #[]) σ') := ⟨fun K E hK => by
  have hl := h.len
  have e1 := qa.eq
  have e2 := qb.eq
  have e3 := qk.eq
  subst e1; subst e2; subst e3
  obtain ⟨⟨h1, h2, h3⟩, hK⟩ := hK
  refine calls_enter Try.func80 rfl _ Try.ntmps80 rfl ?_
  (repeat (first | refine go ?_ | refine goR ?_ | refine goS (fun yc hyc => ?_) | refine goL (fun _ _ => inferInstance) ?_ | with_reducible intro _ | refine goO (by first | omega | (simp only [List.length_cons, List.length_nil]; omega)) ?_ | fail))
  refine WC.loop (fun (i : Nat) f s => At f 0 (.slice A n c) ∧ At f 1 (.int .i64 (a : Int)) ∧ At f 2 (.int .i64 (b : Int)) ∧ At f 3 (.int .i64 (k : Int)) ∧ At f 4 fv ∧ At f 10 (.int .i64 (i : Int)) ∧ Nx σ s (.row A t) ∧
      Row s A n c t keyE (swpR xs a b i) ∧ i ≤ k) (fun i => k - i) 0
    ⟨inferInstance, inferInstance, inferInstance, inferInstance, inferInstance, At.to (.int .i64 0) (by simp), Sx.nx (inferInstance : Sx σ (.row A t) _), inferInstance, Nat.zero_le _⟩ ?_
  rintro i f s ⟨a0, a1, a2, a3, a4, a10, hs, hr, hi⟩
  (repeat (first | refine go ?_ | refine goR ?_ | refine goS (fun yc hyc => ?_) | refine goL (fun _ _ => inferInstance) ?_ | with_reducible intro _ | refine goO (by first | omega | (simp only [List.length_cons, List.length_nil]; omega)) ?_ | fail))
  refine WC.cond ?_ ?_ <;> intro hb1
  · have hlt : i < k := by have := hb1; simp at this; omega
    haveI : IdxLt (a + i) n := ⟨by omega⟩
    haveI : IdxLt (b + i) n := ⟨by omega⟩
    haveI : Fits .i64 ((a : Int) + (i : Int)) := Fits.i64 (by omega) (by omega)
    haveI : Fits .i64 ((b : Int) + (i : Int)) := Fits.i64 (by omega) (by omega)
    haveI : Fits .i64 ((i : Int) + 1) := Fits.i64 (by omega) (by omega)
    (repeat (first | refine go ?_ | refine goR ?_ | refine goS (fun yc hyc => ?_) | refine goL (fun _ _ => inferInstance) ?_ | with_reducible intro _ | refine goO (by first | omega | (simp only [List.length_cons, List.length_nil]; omega)) ?_ | fail))
    refine WC.draw [21, 23] (.p 0 (.p 1 (.p 2 (.p 3 (.p 4 (.p 5 (.p 6 (.p 7 (.p 8 (.p 9 (.p 10 (.p 11 (.l 12 (.l 13 (.p 14 (.p 15 (.p 16 (.p 17 (.l 18 (.l 19 (.l 20 (.h 21 (.l 22 (.h 23 .nil)))))))))))))))))))))))) mixed (by decide +kernel) ?_
    (repeat (first | refine go ?_ | refine goR ?_ | refine goS (fun yc hyc => ?_) | refine goL (fun _ _ => inferInstance) ?_ | with_reducible intro _ | refine goO (by first | omega | (simp only [List.length_cons, List.length_nil]; omega)) ?_ | fail))
    refine loop_n (i + 1) ⟨inferInstance, inferInstance, inferInstance, inferInstance, inferInstance, At.to (.int .i64 ((i : Int) + 1)) (by simp), Sx.nx (inferInstance : Sx σ (.row A t) _), inferInstance, hlt⟩ (by omega)
  · have : i = k := by have := hb1; simp at this; omega
    subst this
    (repeat (first | refine go ?_ | refine goR ?_ | refine goS (fun yc hyc => ?_) | refine goL (fun _ _ => inferInstance) ?_ | with_reducible intro _ | refine goO (by first | omega | (simp only [List.length_cons, List.length_nil]; omega)) ?_ | fail))
    exact res0n Try.results80 (hK _ inferInstance inferInstance)⟩

instance rule_rotate [h : Row σ A n c t keyE xs] {ja jm jb : Int} {a m b : Nat} [qa : ToNat ja a] [qm : ToNat jm m] [qb : ToNat jb b] :
    CallRule Try.prog 79 [.slice A n c, .int .i64 ja, .int .i64 jm, .int .i64 jb, fv] σ (fun K _ => (a < m ∧ m < b ∧ b ≤ n ∧ n < 2305843009213693952) ∧ ∀ σ', Nx σ σ' (.row A t) → Row σ' A n c t keyE (rotd xs a m b) → K (.tuple #[]) σ') := ⟨fun K E hK => by
  have hl := h.len
  have e1 := qa.eq
  have e2 := qm.eq
  have e3 := qb.eq
  subst e1; subst e2; subst e3
  obtain ⟨⟨h1, h2, h3, h4⟩, hK⟩ := hK
  haveI : LeN a m := ⟨by omega⟩
  haveI : LeN m b := ⟨by omega⟩
  haveI : Fits .i64 ((m : Int) - (a : Int)) := Fits.i64 (by omega) (by omega)
  haveI : Fits .i64 ((b : Int) - (m : Int)) := Fits.i64 (by omega) (by omega)
  refine calls_enter Try.func79 rfl _ Try.ntmps79 rfl ?_
  (repeat (first | refine go ?_ | refine goR ?_ | refine goS (fun yc hyc => ?_) | refine goL (fun _ _ => inferInstance) ?_ | with_reducible intro _ | refine goO (by first | omega | (simp only [List.length_cons, List.length_nil]; omega)) ?_ | fail))
  refine WC.loop (fun (ij : Nat × Nat) f s => At f 0 (.slice A n c) ∧ At f 2 (.int .i64 (m : Int)) ∧ At f 4 fv ∧ At f 10 (.int .i64 (ij.1 : Int)) ∧ At f 11 (.int .i64 (ij.2 : Int)) ∧ Nx σ s (.row A t) ∧
      ∃ zs, Row s A n c t keyE zs ∧ RotAt m ij.1 ij.2 zs (rotd xs a m b) ∧ 1 ≤ ij.1 ∧ 1 ≤ ij.2 ∧ ij.1 ≤ m ∧ m + ij.2 ≤ n) (fun ij => ij.1 + ij.2) (m - a, b - m)
    ⟨inferInstance, inferInstance, inferInstance, At.to (.int .i64 ((m : Int) - (a : Int))) (by simp; omega), At.to (.int .i64 ((b : Int) - (m : Int))) (by simp; omega), Sx.nx (inferInstance : Sx σ (.row A t) _), xs, inferInstance, RotAt.start xs (by omega) (by omega) (by omega), by simp; omega, by simp; omega, by simp, by simp; omega⟩ ?_
  rintro ⟨i, j⟩ f s ⟨a0, a2, a4, a10, a11, hs, zs, hr, hrot, hi1, hj1, him, hjn⟩
  simp only at a10 a11 hrot hi1 hj1 him hjn
  haveI : LeN i m := ⟨him⟩
  haveI : Fits .i64 ((m : Int) - (i : Int)) := Fits.i64 (by omega) (by omega)
  (repeat (first | refine go ?_ | refine goR ?_ | refine goS (fun yc hyc => ?_) | refine goL (fun _ _ => inferInstance) ?_ | with_reducible intro _ | refine goO (by first | omega | (simp only [List.length_cons, List.length_nil]; omega)) ?_ | fail))
  refine WC.cond ?_ ?_ <;> intro hb1
  · have hne : i ≠ j := by have := hb1; simp at this; omega
    (repeat (first | refine go ?_ | refine goR ?_ | refine goS (fun yc hyc => ?_) | refine goL (fun _ _ => inferInstance) ?_ | with_reducible intro _ | refine goO (by first | omega | (simp only [List.length_cons, List.length_nil]; omega)) ?_ | fail))
    refine WC.cond ?_ ?_ <;> intro hb2
    · have hlt : j < i := by have := hb2; simp at this; omega
      haveI : Fits .i64 ((i : Int) - (j : Int)) := Fits.i64 (by omega) (by omega)
      (repeat (first | refine go ?_ | refine goR ?_ | refine goS (fun yc hyc => ?_) | refine goL (fun _ _ => inferInstance) ?_ | with_reducible intro _ | refine goO (by first | omega | (simp only [List.length_cons, List.length_nil]; omega)) ?_ | fail))
      refine loop_n (i - j, j) ⟨inferInstance, inferInstance, inferInstance, At.to (.int .i64 ((i : Int) - (j : Int))) (by simp; omega), inferInstance, Sx.nx (inferInstance : Sx σ (.row A t) _), _, inferInstance, hrot.gt hlt, by simp; omega, hj1, by simp; omega, hjn⟩ (by simp; omega)
    · have hlt : i < j := by have := hb2; simp at this; omega
      haveI : Fits .i64 ((m : Int) + (j : Int)) := Fits.i64 (by omega) (by omega)
      haveI : Fits .i64 ((m : Int) + (j : Int) - (i : Int)) := Fits.i64 (by omega) (by omega)
      haveI : Fits .i64 ((j : Int) - (i : Int)) := Fits.i64 (by omega) (by omega)
      haveI : LeN i (m + j) := ⟨by omega⟩
      (repeat (first | refine go ?_ | refine goR ?_ | refine goS (fun yc hyc => ?_) | refine goL (fun _ _ => inferInstance) ?_ | with_reducible intro _ | refine goO (by first | omega | (simp only [List.length_cons, List.length_nil]; omega)) ?_ | fail))
      refine loop_n (i, j - i) ⟨inferInstance, inferInstance, inferInstance, inferInstance, At.to (.int .i64 ((j : Int) - (i : Int))) (by simp; omega), Sx.nx (inferInstance : Sx σ (.row A t) _), _, inferInstance, hrot.lt hlt, hi1, by simp; omega, him, by simp; omega⟩ (by simp; omega)
  · have : i = j := by have := hb1; simp at this; omega
    subst this
    (repeat (first | refine go ?_ | refine goR ?_ | refine goS (fun yc hyc => ?_) | refine goL (fun _ _ => inferInstance) ?_ | with_reducible intro _ | refine goO (by first | omega | (simp only [List.length_cons, List.length_nil]; omega)) ?_ | fail))
    rename_i hn' hr'
    rw [hrot.eq] at hr'
    exact res0n Try.results79 (hK _ (Sx.nx inferInstance) inferInstance)⟩
end
end Go.Proofs.Ythdhnkgnbdociaa
