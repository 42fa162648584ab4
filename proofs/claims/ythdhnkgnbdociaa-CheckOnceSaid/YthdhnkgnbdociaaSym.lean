/- The library's merge in place at keys, by contract. No condition. -/
import Derived.Test.YthdhnkgnbdociaaStg
set_option linter.all false
set_option maxHeartbeats 40000000
set_option synthInstance.maxHeartbeats 2000000
set_option synthInstance.maxSize 100000
namespace Go.Proofs.Ythdhnkgnbdociaa
open Go Go.RowKit
section
variable {A : Option Addr} {n c : Nat} {t : TypeId} {fv : Value} {r : Key → Key → Int}

theorem r_symMerge [cf : CmpF Try.prog fv keyE r] (w : Weak r) (hbig : n < 2305843009213693952) : ∀ (d : Nat) (σ : St) (xs : List Key) (a m b : Nat), b - a = d → Row σ A n c t keyE xs → a < m → m < b → b ≤ n → Srt r (seg xs a m) → Srt r (seg xs m b) →
    ∀ (K : KV) (E : KE), (∀ σ' ys, Nx σ σ' (.row A t) → Row σ' A n c t keyE ys → SortedSeg r xs a b ys → K (.tuple #[]) σ') →
    Calls Try.prog 78 #[.slice A n c, .int .i64 (a : Int), .int .i64 (m : Int), .int .i64 (b : Int), fv] σ.w (fun
    | .returned v, w' => ∃ σ' : St, σ'.w = w' ∧ K v σ'
    | .panicked c, w' => ∃ σ' : St, σ'.w = w' ∧ E c σ'
    | .outgrown, _ => False) := by
  intro d
  induction d using Nat.strongRecOn with
  | _ d ih =>
  intro σ xs a m b hd h ham hmb hbn hU hV K E hK
  haveI := h
  have hl := h.len
  haveI ihI : ∀ (σ : St) (xs : List Key) (ja jm jb : Int) (a' m' b' : Nat) [Row σ A n c t keyE xs] [ToNat ja a'] [ToNat jm m'] [ToNat jb b'],
      CallRule Try.prog 78 [.slice A n c, .int .i64 ja, .int .i64 jm, .int .i64 jb, fv] σ (fun K _ => ((b' - a' < d ∧ a' < m' ∧ m' < b' ∧ b' ≤ n) ∧ Srt r (seg xs a' m') ∧ Srt r (seg xs m' b')) ∧ ∀ σ' ys, Nx σ σ' (.row A t) → Row σ' A n c t keyE ys → SortedSeg r xs a' b' ys → K (.tuple #[]) σ') :=
    fun σ xs ja jm jb a' m' b' hr q1 q2 q3 => ⟨fun K E hK => by
      have e1 := q1.eq
      have e2 := q2.eq
      have e3 := q3.eq
      subst e1; subst e2; subst e3
      exact ih _ hK.1.1.1 σ xs a' m' b' rfl hr hK.1.1.2.1 hK.1.1.2.2.1 hK.1.1.2.2.2 hK.1.2.1 hK.1.2.2 K E hK.2⟩
  haveI : Fits .i64 ((m : Int) - (a : Int)) := Fits.i64 (by omega) (by omega)
  haveI : Fits .i64 ((b : Int) - (m : Int)) := Fits.i64 (by omega) (by omega)
  haveI : IdxLt a n := ⟨by omega⟩
  haveI : IdxLt m n := ⟨by omega⟩
  refine calls_enter Try.func78 rfl _ Try.ntmps78 rfl ?_
  (repeat (first | refine go ?_ | refine goR ?_ | refine goS (fun yc hyc => ?_) | refine goL (fun _ _ => inferInstance) ?_ | with_reducible intro _ | refine goO (by first | omega | (simp only [List.length_cons, List.length_nil]; omega)) ?_ | fail))
  refine WC.cut (fun f s => At f 0 (.slice A n c) ∧ At f 1 (.int .i64 (a : Int)) ∧ At f 2 (.int .i64 (m : Int)) ∧ At f 3 (.int .i64 (b : Int)) ∧ At f 4 fv ∧ Nx σ s (.row A t) ∧ Row s A n c t keyE xs) ?_ ?_
  · refine WC.cond ?_ ?_ <;> intro hb1
    · have hm1 : m = a + 1 := by have := hb1; simp at this; omega
      (repeat (first | refine go ?_ | refine goR ?_ | refine goS (fun yc hyc => ?_) | refine goL (fun _ _ => inferInstance) ?_ | with_reducible intro _ | refine goO (by first | omega | (simp only [List.length_cons, List.length_nil]; omega)) ?_ | fail))
      refine WC.loop (fun (ij : Nat × Nat) f s => At f 0 (.slice A n c) ∧ At f 1 (.int .i64 (a : Int)) ∧ At f 4 fv ∧ At f 10 (.int .i64 (ij.1 : Int)) ∧ At f 11 (.int .i64 (ij.2 : Int)) ∧ Nx σ s (.row A t) ∧ Row s A n c t keyE xs ∧ (m ≤ ij.1 ∧ ij.1 ≤ ij.2 ∧ ij.2 ≤ b) ∧
        (ij.1 = m ∨ r xs[ij.1 - 1]! xs[a]! < 0) ∧ (ij.2 = b ∨ ¬ r xs[ij.2]! xs[a]! < 0)) (fun ij => ij.2 - ij.1) (m, b)
        ⟨inferInstance, inferInstance, inferInstance, inferInstance, inferInstance, Sx.nx (inferInstance : Sx σ (.row A t) _), inferInstance, ⟨Nat.le_refl _, by simp; omega, Nat.le_refl _⟩, .inl rfl, .inl rfl⟩ ?_
      rintro ⟨i, j⟩ f s ⟨a0, a1, a4, a10, a11, hs, hr, hij, c1, c2⟩
      simp only at a10 a11 hij c1 c2
      haveI : Fits .i64 ((i : Int) + (j : Int)) := Fits.i64 (by omega) (by omega)
      haveI : Fits .u64 ((i : Int) + (j : Int)) := Fits.u64 (by omega) (by omega)
      haveI : Fits .i64 (((i + j) / 2 : Nat) : Int) := Fits.i64 (by omega) (by omega)
      haveI : Fits .i64 ((((i + j) / 2 : Nat) : Int) + 1) := Fits.i64 (by omega) (by omega)
      haveI : Fits .i64 ((i : Int) - 1) := Fits.i64 (by omega) (by omega)
      (repeat (first | refine go ?_ | refine goR ?_ | refine goS (fun yc hyc => ?_) | refine goL (fun _ _ => inferInstance) ?_ | with_reducible intro _ | refine goO (by first | omega | (simp only [List.length_cons, List.length_nil]; omega)) ?_ | fail))
      refine WC.cond ?_ ?_ <;> intro hb2
      · have hlt : i < j := by have := hb2; simp at this; omega
        haveI : IdxLt ((i + j) / 2) n := ⟨by omega⟩
        (repeat (first | refine go ?_ | refine goR ?_ | refine goS (fun yc hyc => ?_) | refine goL (fun _ _ => inferInstance) ?_ | with_reducible intro _ | refine goO (by first | omega | (simp only [List.length_cons, List.length_nil]; omega)) ?_ | fail))
        refine WC.draw [] (.p 0 (.p 1 (.p 2 (.l 3 (.l 4 (.p 5 (.p 6 (.l 7 (.l 8 (.h 9 (.p 10 .nil))))))))))) mixed (by decide +kernel) ?_
        (repeat (first | refine go ?_ | refine goR ?_ | refine goS (fun yc hyc => ?_) | refine goL (fun _ _ => inferInstance) ?_ | with_reducible intro _ | refine goO (by first | omega | (simp only [List.length_cons, List.length_nil]; omega)) ?_ | fail))
        refine WC.cond ?_ ?_ <;> intro hb3
        · (repeat (first | refine go ?_ | refine goR ?_ | refine goS (fun yc hyc => ?_) | refine goL (fun _ _ => inferInstance) ?_ | with_reducible intro _ | refine goO (by first | omega | (simp only [List.length_cons, List.length_nil]; omega)) ?_ | fail))
          refine loop_n ((i + j) / 2 + 1, j) ⟨inferInstance, inferInstance, inferInstance, At.to (.int .i64 ((((i + j) / 2 : Nat) : Int) + 1)) (by simp), inferInstance, Sx.nx (inferInstance : Sx σ (.row A t) _), inferInstance, ⟨by simp; omega, by simp; omega, by simp; omega⟩, .inr (by simpa using hb3), c2⟩ (by simp; omega)
        · (repeat (first | refine go ?_ | refine goR ?_ | refine goS (fun yc hyc => ?_) | refine goL (fun _ _ => inferInstance) ?_ | with_reducible intro _ | refine goO (by first | omega | (simp only [List.length_cons, List.length_nil]; omega)) ?_ | fail))
          refine loop_n (i, (i + j) / 2) ⟨inferInstance, inferInstance, inferInstance, inferInstance, inferInstance, Sx.nx (inferInstance : Sx σ (.row A t) _), inferInstance, ⟨by simp; omega, by simp; omega, by simp; omega⟩, c1, .inr (by simpa using hb3)⟩ (by simp; omega)
      · have : i = j := by have := hb2; simp at this; omega
        subst this
        (repeat (first | refine go ?_ | refine goR ?_ | refine goS (fun yc hyc => ?_) | refine goL (fun _ _ => inferInstance) ?_ | with_reducible intro _ | refine goO (by first | omega | (simp only [List.length_cons, List.length_nil]; omega)) ?_ | fail))
        refine WC.loop (fun (k : Nat) f s => At f 0 (.slice A n c) ∧ At f 10 (.int .i64 (i : Int)) ∧ At f 13 (.int .i64 (k : Int)) ∧ Nx σ s (.row A t) ∧ Row s A n c t keyE (bubUp xs a (k - a)) ∧ a ≤ k ∧ k + 1 ≤ i) (fun k => i - k) a
          ⟨inferInstance, inferInstance, inferInstance, Sx.nx (inferInstance : Sx σ (.row A t) _), by rw [Nat.sub_self, bubUp]; infer_instance, Nat.le_refl _, by omega⟩ ?_
        rintro k f s ⟨a0, a10, a13, hs, hr, hak, hki⟩
        haveI : Fits .i64 ((k : Int) + 1) := Fits.i64 (by omega) (by omega)
        (repeat (first | refine go ?_ | refine goR ?_ | refine goS (fun yc hyc => ?_) | refine goL (fun _ _ => inferInstance) ?_ | with_reducible intro _ | refine goO (by first | omega | (simp only [List.length_cons, List.length_nil]; omega)) ?_ | fail))
        refine WC.cond ?_ ?_ <;> intro hb3
        · have hlt : k + 1 < i := by have := hb3; simp at this; omega
          haveI : IdxLt k n := ⟨by omega⟩
          haveI : IdxLt (k + 1) n := ⟨by omega⟩
          (repeat (first | refine go ?_ | refine goR ?_ | refine goS (fun yc hyc => ?_) | refine goL (fun _ _ => inferInstance) ?_ | with_reducible intro _ | refine goO (by first | omega | (simp only [List.length_cons, List.length_nil]; omega)) ?_ | fail))
          refine WC.draw [15, 17] (.p 0 (.p 1 (.p 2 (.p 3 (.p 4 (.p 5 (.p 6 (.p 7 (.l 8 (.l 9 (.p 10 (.p 11 (.l 12 (.l 13 (.l 14 (.h 15 (.l 16 (.h 17 .nil)))))))))))))))))) mixed (by decide +kernel) ?_
          (repeat (first | refine go ?_ | refine goR ?_ | refine goS (fun yc hyc => ?_) | refine goL (fun _ _ => inferInstance) ?_ | with_reducible intro _ | refine goO (by first | omega | (simp only [List.length_cons, List.length_nil]; omega)) ?_ | fail))
          rename_i hn1 hr1
          refine loop_n (k + 1) ⟨inferInstance, inferInstance, At.to (.int .i64 ((k : Int) + 1)) (by simp), Sx.nx (inferInstance : Sx σ (.row A t) _), ?_, by omega, by omega⟩ (by omega)
          rw [show k + 1 - a = (k - a) + 1 by omega, bubUp, show a + (k - a) = k by omega, ← swp_eq]
          exact hr1
        · have hke : k = i - 1 := by have := hb3; simp at this; omega
          subst hke
          (repeat (first | refine go ?_ | refine goR ?_ | refine goS (fun yc hyc => ?_) | refine goL (fun _ _ => inferInstance) ?_ | with_reducible intro _ | refine goO (by first | omega | (simp only [List.length_cons, List.length_nil]; omega)) ?_ | fail))
          refine res0 Try.results78 (hK _ _ (Sx.nx inferInstance) inferInstance ?_)
          exact one_law w (by omega) (by omega) (by omega) (by rw [← hm1]; exact hV) (by rw [← hm1]; exact c1) c2
    · (repeat (first | refine go ?_ | refine goR ?_ | refine goS (fun yc hyc => ?_) | refine goL (fun _ _ => inferInstance) ?_ | with_reducible intro _ | refine goO (by first | omega | (simp only [List.length_cons, List.length_nil]; omega)) ?_ | fail))
      exact ⟨rfl, inferInstance, inferInstance, inferInstance, inferInstance, inferInstance, Sx.nx (inferInstance : Sx σ (.row A t) _), inferInstance⟩
  rintro f s ⟨a0, a1, a2, a3, a4, hs, hr⟩
  have hU1 := hU
  (repeat (first | refine go ?_ | refine goR ?_ | refine goS (fun yc hyc => ?_) | refine goL (fun _ _ => inferInstance) ?_ | with_reducible intro _ | refine goO (by first | omega | (simp only [List.length_cons, List.length_nil]; omega)) ?_ | fail))
  refine WC.cut (fun f s => At f 0 (.slice A n c) ∧ At f 1 (.int .i64 (a : Int)) ∧ At f 2 (.int .i64 (m : Int)) ∧ At f 3 (.int .i64 (b : Int)) ∧ At f 4 fv ∧ Nx σ s (.row A t) ∧ Row s A n c t keyE xs) ?_ ?_
  · refine WC.cond ?_ ?_ <;> intro hb1
    · have hm1 : b = m + 1 := by have := hb1; simp at this; omega
      subst hm1
      (repeat (first | refine go ?_ | refine goR ?_ | refine goS (fun yc hyc => ?_) | refine goL (fun _ _ => inferInstance) ?_ | with_reducible intro _ | refine goO (by first | omega | (simp only [List.length_cons, List.length_nil]; omega)) ?_ | fail))
      refine WC.loop (fun (ij : Nat × Nat) f s => At f 0 (.slice A n c) ∧ At f 2 (.int .i64 (m : Int)) ∧ At f 4 fv ∧ At f 14 (.int .i64 (ij.1 : Int)) ∧ At f 15 (.int .i64 (ij.2 : Int)) ∧ Nx σ s (.row A t) ∧ Row s A n c t keyE xs ∧ (a ≤ ij.1 ∧ ij.1 ≤ ij.2 ∧ ij.2 ≤ m) ∧
        (ij.1 = a ∨ ¬ r xs[m]! xs[ij.1 - 1]! < 0) ∧ (ij.2 = m ∨ r xs[m]! xs[ij.2]! < 0)) (fun ij => ij.2 - ij.1) (a, m)
        ⟨inferInstance, inferInstance, inferInstance, inferInstance, inferInstance, Sx.nx (inferInstance : Sx σ (.row A t) _), inferInstance, ⟨Nat.le_refl _, by simp; omega, Nat.le_refl _⟩, .inl rfl, .inl rfl⟩ ?_
      rintro ⟨i, j⟩ f s ⟨a0, a2, a4, a14, a15, hs, hr, hij, c1, c2⟩
      simp only at a14 a15 hij c1 c2
      haveI : Fits .i64 ((i : Int) + (j : Int)) := Fits.i64 (by omega) (by omega)
      haveI : Fits .u64 ((i : Int) + (j : Int)) := Fits.u64 (by omega) (by omega)
      haveI : Fits .i64 (((i + j) / 2 : Nat) : Int) := Fits.i64 (by omega) (by omega)
      haveI : Fits .i64 ((((i + j) / 2 : Nat) : Int) + 1) := Fits.i64 (by omega) (by omega)
      (repeat (first | refine go ?_ | refine goR ?_ | refine goS (fun yc hyc => ?_) | refine goL (fun _ _ => inferInstance) ?_ | with_reducible intro _ | refine goO (by first | omega | (simp only [List.length_cons, List.length_nil]; omega)) ?_ | fail))
      refine WC.cond ?_ ?_ <;> intro hb2
      · have hlt : i < j := by have := hb2; simp at this; omega
        haveI : IdxLt ((i + j) / 2) n := ⟨by omega⟩
        (repeat (first | refine go ?_ | refine goR ?_ | refine goS (fun yc hyc => ?_) | refine goL (fun _ _ => inferInstance) ?_ | with_reducible intro _ | refine goO (by first | omega | (simp only [List.length_cons, List.length_nil]; omega)) ?_ | fail))
        refine WC.draw [] (.p 0 (.p 1 (.p 2 (.l 3 (.l 4 (.p 5 (.p 6 (.l 7 (.l 8 (.h 9 (.p 10 (.p 11 .nil)))))))))))) mixed (by decide +kernel) ?_
        (repeat (first | refine go ?_ | refine goR ?_ | refine goS (fun yc hyc => ?_) | refine goL (fun _ _ => inferInstance) ?_ | with_reducible intro _ | refine goO (by first | omega | (simp only [List.length_cons, List.length_nil]; omega)) ?_ | fail))
        refine WC.cond ?_ ?_ <;> intro hb3
        · (repeat (first | refine go ?_ | refine goR ?_ | refine goS (fun yc hyc => ?_) | refine goL (fun _ _ => inferInstance) ?_ | with_reducible intro _ | refine goO (by first | omega | (simp only [List.length_cons, List.length_nil]; omega)) ?_ | fail))
          refine loop_n ((i + j) / 2 + 1, j) ⟨inferInstance, inferInstance, inferInstance, At.to (.int .i64 ((((i + j) / 2 : Nat) : Int) + 1)) (by simp), inferInstance, Sx.nx (inferInstance : Sx σ (.row A t) _), inferInstance, ⟨by simp; omega, by simp; omega, by simp; omega⟩, .inr (by simpa using hb3), c2⟩ (by simp; omega)
        · (repeat (first | refine go ?_ | refine goR ?_ | refine goS (fun yc hyc => ?_) | refine goL (fun _ _ => inferInstance) ?_ | with_reducible intro _ | refine goO (by first | omega | (simp only [List.length_cons, List.length_nil]; omega)) ?_ | fail))
          refine loop_n (i, (i + j) / 2) ⟨inferInstance, inferInstance, inferInstance, inferInstance, inferInstance, Sx.nx (inferInstance : Sx σ (.row A t) _), inferInstance, ⟨by simp; omega, by simp; omega, by simp; omega⟩, c1, .inr (by simpa using hb3)⟩ (by simp; omega)
      · have : i = j := by have := hb2; simp at this; omega
        subst this
        (repeat (first | refine go ?_ | refine goR ?_ | refine goS (fun yc hyc => ?_) | refine goL (fun _ _ => inferInstance) ?_ | with_reducible intro _ | refine goO (by first | omega | (simp only [List.length_cons, List.length_nil]; omega)) ?_ | fail))
        refine WC.loop (fun (k : Nat) f s => At f 0 (.slice A n c) ∧ At f 14 (.int .i64 (i : Int)) ∧ At f 17 (.int .i64 (k : Int)) ∧ Nx σ s (.row A t) ∧ Row s A n c t keyE (bubDn xs m (m - k)) ∧ i ≤ k ∧ k ≤ m) (fun k => k - i) m
          ⟨inferInstance, inferInstance, inferInstance, Sx.nx (inferInstance : Sx σ (.row A t) _), by rw [Nat.sub_self, bubDn]; infer_instance, by omega, Nat.le_refl _⟩ ?_
        rintro k f s ⟨a0, a14, a17, hs, hr, hik, hkm⟩
        (repeat (first | refine go ?_ | refine goR ?_ | refine goS (fun yc hyc => ?_) | refine goL (fun _ _ => inferInstance) ?_ | with_reducible intro _ | refine goO (by first | omega | (simp only [List.length_cons, List.length_nil]; omega)) ?_ | fail))
        refine WC.cond ?_ ?_ <;> intro hb3
        · have hlt : i < k := by have := hb3; simp at this; omega
          haveI : IdxLt k n := ⟨by omega⟩
          haveI : IdxLt (k - 1) n := ⟨by omega⟩
          haveI : LeN 1 k := ⟨by omega⟩
          haveI : Fits .i64 ((k : Int) - 1) := Fits.i64 (by omega) (by omega)
          (repeat (first | refine go ?_ | refine goR ?_ | refine goS (fun yc hyc => ?_) | refine goL (fun _ _ => inferInstance) ?_ | with_reducible intro _ | refine goO (by first | omega | (simp only [List.length_cons, List.length_nil]; omega)) ?_ | fail))
          refine WC.draw [15, 17] (.p 0 (.p 1 (.p 2 (.p 3 (.p 4 (.p 5 (.p 6 (.p 7 (.l 8 (.l 9 (.p 10 (.p 11 (.l 12 (.l 13 (.l 14 (.h 15 (.l 16 (.h 17 .nil)))))))))))))))))) mixed (by decide +kernel) ?_
          (repeat (first | refine go ?_ | refine goR ?_ | refine goS (fun yc hyc => ?_) | refine goL (fun _ _ => inferInstance) ?_ | with_reducible intro _ | refine goO (by first | omega | (simp only [List.length_cons, List.length_nil]; omega)) ?_ | fail))
          rename_i hn1 hr1
          refine loop_n (k - 1) ⟨inferInstance, inferInstance, At.to (.int .i64 ((k : Int) - 1)) (by simp; omega), Sx.nx (inferInstance : Sx σ (.row A t) _), ?_, by omega, by omega⟩ (by omega)
          rw [show m - (k - 1) = (m - k) + 1 by omega, bubDn, show m - (m - k) = k by omega, ← swp_eq]
          exact hr1
        · have hke : k = i := by have := hb3; simp at this; omega
          subst hke
          (repeat (first | refine go ?_ | refine goR ?_ | refine goS (fun yc hyc => ?_) | refine goL (fun _ _ => inferInstance) ?_ | with_reducible intro _ | refine goO (by first | omega | (simp only [List.length_cons, List.length_nil]; omega)) ?_ | fail))
          exact res0 Try.results78 (hK _ _ (Sx.nx inferInstance) inferInstance (two_law w (by omega) (by omega) (by omega) hU c1 c2))
    · (repeat (first | refine go ?_ | refine goR ?_ | refine goS (fun yc hyc => ?_) | refine goL (fun _ _ => inferInstance) ?_ | with_reducible intro _ | refine goO (by first | omega | (simp only [List.length_cons, List.length_nil]; omega)) ?_ | fail))
      exact ⟨rfl, inferInstance, inferInstance, inferInstance, inferInstance, inferInstance, Sx.nx (inferInstance : Sx σ (.row A t) _), inferInstance⟩
  rintro f s ⟨a0, a1, a2, a3, a4, hs, hr⟩
  haveI : Fits .i64 ((a : Int) + (b : Int)) := Fits.i64 (by omega) (by omega)
  haveI : Fits .u64 ((a : Int) + (b : Int)) := Fits.u64 (by omega) (by omega)
  obtain ⟨mid, hmid⟩ : ∃ mid, mid = (a + b) / 2 := ⟨_, rfl⟩
  haveI : Half ((a : Int) + (b : Int)) (mid : Int) := ⟨by rw [Int.fdiv_eq_ediv_of_nonneg _ (by omega)]; omega⟩
  haveI : Fits .i64 (mid : Int) := Fits.i64 (by omega) (by omega)
  haveI : Fits .i64 ((mid : Int) + (m : Int)) := Fits.i64 (by omega) (by omega)
  haveI : Fits .i64 ((mid : Int) + (m : Int) - (b : Int)) := Fits.i64 (by omega) (by omega)
  haveI : Fits .i64 ((mid : Int) + (m : Int) - 1) := Fits.i64 (by omega) (by omega)
  (repeat (first | refine go ?_ | refine goR ?_ | refine goS (fun yc hyc => ?_) | refine goL (fun _ _ => inferInstance) ?_ | with_reducible intro _ | refine goO (by first | omega | (simp only [List.length_cons, List.length_nil]; omega)) ?_ | fail))
  refine WC.cut (fun f s => At f 0 (.slice A n c) ∧ At f 1 (.int .i64 (a : Int)) ∧ At f 2 (.int .i64 (m : Int)) ∧ At f 3 (.int .i64 (b : Int)) ∧ At f 4 fv ∧ At f 18 (.int .i64 (mid : Int)) ∧ At f 19 (.int .i64 ((mid : Int) + (m : Int))) ∧ Nx σ s (.row A t) ∧ Row s A n c t keyE xs ∧
    ∃ s0 r0 : Nat, At f 20 (.int .i64 (s0 : Int)) ∧ At f 21 (.int .i64 (r0 : Int)) ∧ ((a ≤ s0 ∧ s0 ≤ r0 ∧ r0 ≤ m ∧ r0 ≤ mid ∧ mid + m ≤ b + s0) ∧ (s0 = a ∨ s0 + b = mid + m) ∧ (r0 = m ∨ r0 = mid))) ?_ ?_
  · refine WC.cond ?_ ?_ <;> intro hb1
    · have hlt : mid < m := by have := hb1; simp at this; omega
      (repeat (first | refine go ?_ | refine goR ?_ | refine goS (fun yc hyc => ?_) | refine goL (fun _ _ => inferInstance) ?_ | with_reducible intro _ | refine goO (by first | omega | (simp only [List.length_cons, List.length_nil]; omega)) ?_ | fail))
      exact ⟨rfl, inferInstance, inferInstance, inferInstance, inferInstance, inferInstance, inferInstance, inferInstance, Sx.nx (inferInstance : Sx σ (.row A t) _), inferInstance, mid + m - b, mid, At.to (.int .i64 ((mid : Int) + (m : Int) - (b : Int))) (by simp; omega), inferInstance, by omega, by omega, by omega⟩
    · have hlt : m ≤ mid := by have := hb1; simp at this; omega
      (repeat (first | refine go ?_ | refine goR ?_ | refine goS (fun yc hyc => ?_) | refine goL (fun _ _ => inferInstance) ?_ | with_reducible intro _ | refine goO (by first | omega | (simp only [List.length_cons, List.length_nil]; omega)) ?_ | fail))
      exact ⟨rfl, inferInstance, inferInstance, inferInstance, inferInstance, inferInstance, inferInstance, inferInstance, Sx.nx (inferInstance : Sx σ (.row A t) _), inferInstance, a, m, inferInstance, inferInstance, by omega, by omega, by omega⟩
  rintro f s ⟨a0, a1, a2, a3, a4, a18, a19, hs, hr, s0, r0, a20, a21, hsr, hs0, hr0⟩
  (repeat (first | refine go ?_ | refine goR ?_ | refine goS (fun yc hyc => ?_) | refine goL (fun _ _ => inferInstance) ?_ | with_reducible intro _ | refine goO (by first | omega | (simp only [List.length_cons, List.length_nil]; omega)) ?_ | fail))
  refine WC.loop (fun (ij : Nat × Nat) f s => At f 0 (.slice A n c) ∧ At f 1 (.int .i64 (a : Int)) ∧ At f 2 (.int .i64 (m : Int)) ∧ At f 3 (.int .i64 (b : Int)) ∧ At f 4 fv ∧ At f 18 (.int .i64 (mid : Int)) ∧ At f 19 (.int .i64 ((mid : Int) + (m : Int))) ∧ At f 20 (.int .i64 (ij.1 : Int)) ∧ At f 21 (.int .i64 (ij.2 : Int)) ∧
      At f 22 (.int .i64 ((mid : Int) + (m : Int) - 1)) ∧ Nx σ s (.row A t) ∧ Row s A n c t keyE xs ∧ (s0 ≤ ij.1 ∧ ij.1 ≤ ij.2 ∧ ij.2 ≤ r0) ∧
      (ij.1 = s0 ∨ ¬ r xs[mid + m - ij.1]! xs[ij.1 - 1]! < 0) ∧ (ij.2 = r0 ∨ r xs[mid + m - ij.2 - 1]! xs[ij.2]! < 0)) (fun ij => ij.2 - ij.1) (s0, r0)
      ⟨inferInstance, inferInstance, inferInstance, inferInstance, inferInstance, inferInstance, inferInstance, inferInstance, inferInstance, inferInstance, Sx.nx (inferInstance : Sx σ (.row A t) _), inferInstance, ⟨Nat.le_refl _, by simp; omega, Nat.le_refl _⟩, .inl rfl, .inl rfl⟩ ?_
  rintro ⟨i, j⟩ f s ⟨a0, a1, a2, a3, a4, a18, a19, a20, a21, a22, hs, hr, hij, c1, c2⟩
  simp only at a20 a21 hij c1 c2
  haveI : Fits .i64 ((i : Int) + (j : Int)) := Fits.i64 (by omega) (by omega)
  haveI : Fits .u64 ((i : Int) + (j : Int)) := Fits.u64 (by omega) (by omega)
  obtain ⟨h2, hh2⟩ : ∃ h2, h2 = (i + j) / 2 := ⟨_, rfl⟩
  haveI : Half ((i : Int) + (j : Int)) (h2 : Int) := ⟨by rw [Int.fdiv_eq_ediv_of_nonneg _ (by omega)]; omega⟩
  haveI : Fits .i64 (h2 : Int) := Fits.i64 (by omega) (by omega)
  haveI : Fits .i64 ((h2 : Int) + 1) := Fits.i64 (by omega) (by omega)
  haveI : Fits .i64 ((mid : Int) + (m : Int) - 1 - (h2 : Int)) := Fits.i64 (by omega) (by omega)
  haveI : LeN 1 (mid + m) := ⟨by omega⟩
  (repeat (first | refine go ?_ | refine goR ?_ | refine goS (fun yc hyc => ?_) | refine goL (fun _ _ => inferInstance) ?_ | with_reducible intro _ | refine goO (by first | omega | (simp only [List.length_cons, List.length_nil]; omega)) ?_ | fail))
  refine WC.cond ?_ ?_ <;> intro hb2
  · have hlt : i < j := by have := hb2; simp at this; omega
    haveI : IdxLt h2 n := ⟨by omega⟩
    haveI : LeN h2 (mid + m - 1) := ⟨by omega⟩
    haveI : IdxLt (mid + m - 1 - h2) n := ⟨by omega⟩
    (repeat (first | refine go ?_ | refine goR ?_ | refine goS (fun yc hyc => ?_) | refine goL (fun _ _ => inferInstance) ?_ | with_reducible intro _ | refine goO (by first | omega | (simp only [List.length_cons, List.length_nil]; omega)) ?_ | fail))
    refine WC.draw [] (.p 0 (.p 1 (.p 2 (.p 3 (.p 4 (.l 5 (.l 6 (.p 7 (.p 8 (.l 9 (.l 10 (.h 11 (.p 12 (.p 13 .nil)))))))))))))) mixed (by decide +kernel) ?_
    (repeat (first | refine go ?_ | refine goR ?_ | refine goS (fun yc hyc => ?_) | refine goL (fun _ _ => inferInstance) ?_ | with_reducible intro _ | refine goO (by first | omega | (simp only [List.length_cons, List.length_nil]; omega)) ?_ | fail))
    refine WC.cond ?_ ?_ <;> intro hb3
    · (repeat (first | refine go ?_ | refine goR ?_ | refine goS (fun yc hyc => ?_) | refine goL (fun _ _ => inferInstance) ?_ | with_reducible intro _ | refine goO (by first | omega | (simp only [List.length_cons, List.length_nil]; omega)) ?_ | fail))
      refine loop_n (h2 + 1, j) ⟨inferInstance, inferInstance, inferInstance, inferInstance, inferInstance, inferInstance, inferInstance, At.to (.int .i64 ((h2 : Int) + 1)) (by simp), inferInstance, inferInstance, Sx.nx (inferInstance : Sx σ (.row A t) _), inferInstance, ⟨by simp; omega, by simp; omega, by simp; omega⟩, .inr ?_, c2⟩ (by simp; omega)
      have := hb3
      simp only [Nat.add_sub_cancel, show mid + m - (h2 + 1) = mid + m - 1 - h2 by omega]
      simpa using this
    · (repeat (first | refine go ?_ | refine goR ?_ | refine goS (fun yc hyc => ?_) | refine goL (fun _ _ => inferInstance) ?_ | with_reducible intro _ | refine goO (by first | omega | (simp only [List.length_cons, List.length_nil]; omega)) ?_ | fail))
      refine loop_n (i, h2) ⟨inferInstance, inferInstance, inferInstance, inferInstance, inferInstance, inferInstance, inferInstance, inferInstance, inferInstance, inferInstance, Sx.nx (inferInstance : Sx σ (.row A t) _), inferInstance, ⟨by simp; omega, by simp; omega, by simp; omega⟩, c1, .inr ?_⟩ (by simp; omega)
      have := hb3
      simp only [show mid + m - h2 - 1 = mid + m - 1 - h2 by omega]
      simpa using this
  have : i = j := by have := hb2; simp at this; omega
  subst this
  obtain ⟨e, he⟩ : ∃ e, e = mid + m - i := ⟨_, rfl⟩
  haveI : Fits .i64 ((mid : Int) + (m : Int) - (i : Int)) := Fits.i64 (by omega) (by omega)
  haveI : LeN i (mid + m) := ⟨by omega⟩
  obtain ⟨k1, k2, k3, k4⟩ := sym_law w (q := i) (e := e) (b := b) (mid := mid) (by omega) (by omega) (by omega) (by omega) (by omega) (by omega) hU hV
    (by rcases c1 with c | c
        · rcases hs0 with c' | c'
          · exact .inl (by omega)
          · exact .inr (.inl (by omega))
        · exact .inr (.inr (by rw [he]; exact c)))
    (by rcases c2 with c | c
        · rcases hr0 with c' | c'
          · exact .inl (by omega)
          · exact .inr (.inl (by omega))
        · exact .inr (.inr (by rw [he]; exact c)))
  (repeat (first | refine go ?_ | refine goS (fun yc hyc => ?_) | refine goL (fun _ _ => inferInstance) ?_ | with_reducible intro _ | refine goO (by first | omega | (simp only [List.length_cons, List.length_nil]; omega)) ?_ | fail))
  refine WC.region ?_
  (repeat (first | refine go ?_ | refine goS (fun yc hyc => ?_) | refine goL (fun _ _ => inferInstance) ?_ | with_reducible intro _ | refine goO (by first | omega | (simp only [List.length_cons, List.length_nil]; omega)) ?_ | fail))
  refine WC.cut (fun f s => At f 0 (.slice A n c) ∧ At f 1 (.int .i64 (a : Int)) ∧ At f 2 (.int .i64 (m : Int)) ∧ At f 3 (.int .i64 (b : Int)) ∧ At f 4 fv ∧ At f 18 (.int .i64 (mid : Int)) ∧ At f 20 (.int .i64 (i : Int)) ∧ At f 24 (.int .i64 (e : Int)) ∧ Nx σ s (.row A t) ∧ Row s A n c t keyE xs ∧ At f 185 (.bool (decide (i < m ∧ m < e)))) ?_ ?_
  · refine WC.region ?_
    (repeat (first | refine go ?_ | refine goR ?_ | refine goS (fun yc hyc => ?_) | refine goL (fun _ _ => inferInstance) ?_ | with_reducible intro _ | refine goO (by first | omega | (simp only [List.length_cons, List.length_nil]; omega)) ?_ | fail))
    refine WL.part rfl ?_ ?_ <;> intro hg
    · have hg : i < m := by simpa using hg
      (repeat (first | refine go ?_ | refine goR ?_ | refine goS (fun yc hyc => ?_) | refine goL (fun _ _ => inferInstance) ?_ | with_reducible intro _ | refine goO (by first | omega | (simp only [List.length_cons, List.length_nil]; omega)) ?_ | fail))
      exact ⟨rfl, inferInstance, inferInstance, inferInstance, inferInstance, inferInstance, inferInstance, inferInstance, At.to (.int .i64 ((mid : Int) + (m : Int) - (i : Int))) (by congr 1; omega), Sx.nx (inferInstance : Sx σ (.row A t) _), inferInstance, At.to (.bool (decide ((m : Int) < (mid : Int) + (m : Int) - (i : Int)))) (by simp [hg]; omega)⟩
    · have hg : ¬ i < m := by simpa using hg
      (repeat (first | refine go ?_ | refine goR ?_ | refine goS (fun yc hyc => ?_) | refine goL (fun _ _ => inferInstance) ?_ | with_reducible intro _ | refine goO (by first | omega | (simp only [List.length_cons, List.length_nil]; omega)) ?_ | fail))
      exact ⟨rfl, inferInstance, inferInstance, inferInstance, inferInstance, inferInstance, inferInstance, inferInstance, At.to (.int .i64 ((mid : Int) + (m : Int) - (i : Int))) (by congr 1; omega), Sx.nx (inferInstance : Sx σ (.row A t) _), inferInstance, At.to (.bool false) (by simp [hg])⟩
  rintro f s ⟨a0, a1, a2, a3, a4, a18, a20, a24, hs, hr, aG⟩
  (repeat (first | refine go ?_ | refine goS (fun yc hyc => ?_) | refine goL (fun _ _ => inferInstance) ?_ | with_reducible intro _ | refine goO (by first | omega | (simp only [List.length_cons, List.length_nil]; omega)) ?_ | fail))
  refine WC.cut (fun f s => At f 0 (.slice A n c) ∧ At f 1 (.int .i64 (a : Int)) ∧ At f 2 (.int .i64 (m : Int)) ∧ At f 3 (.int .i64 (b : Int)) ∧ At f 4 fv ∧ At f 18 (.int .i64 (mid : Int)) ∧ At f 20 (.int .i64 (i : Int)) ∧ At f 24 (.int .i64 (e : Int)) ∧ Nx σ s (.row A t) ∧ Row s A n c t keyE (rotd xs i m e)) ?_ ?_
  · refine WC.cond ?_ ?_ <;> intro hg
    · have hg : i < m ∧ m < e := by simpa using hg
      (repeat (first | refine go ?_ | refine goR ?_ | refine goS (fun yc hyc => ?_) | refine goL (fun _ _ => inferInstance) ?_ | with_reducible intro _ | refine goO (by first | omega | (simp only [List.length_cons, List.length_nil]; omega)) ?_ | fail))
      exact ⟨rfl, inferInstance, inferInstance, inferInstance, inferInstance, inferInstance, inferInstance, inferInstance, inferInstance, Sx.nx (inferInstance : Sx σ (.row A t) _), inferInstance⟩
    · have hg : ¬ (i < m ∧ m < e) := by simpa using hg
      (repeat (first | refine go ?_ | refine goR ?_ | refine goS (fun yc hyc => ?_) | refine goL (fun _ _ => inferInstance) ?_ | with_reducible intro _ | refine goO (by first | omega | (simp only [List.length_cons, List.length_nil]; omega)) ?_ | fail))
      refine ⟨rfl, inferInstance, inferInstance, inferInstance, inferInstance, inferInstance, inferInstance, inferInstance, inferInstance, Sx.nx (inferInstance : Sx σ (.row A t) _), ?_⟩
      rw [rotd_id (by omega) (by omega) (by omega) (by omega)]
      infer_instance
  rintro f s ⟨a0, a1, a2, a3, a4, a18, a20, a24, hs, hr⟩
  (repeat (first | refine go ?_ | refine goS (fun yc hyc => ?_) | refine goL (fun _ _ => inferInstance) ?_ | with_reducible intro _ | refine goO (by first | omega | (simp only [List.length_cons, List.length_nil]; omega)) ?_ | fail))
  refine WC.cut (fun f s => At f 0 (.slice A n c) ∧ At f 1 (.int .i64 (a : Int)) ∧ At f 2 (.int .i64 (m : Int)) ∧ At f 3 (.int .i64 (b : Int)) ∧ At f 4 fv ∧ At f 18 (.int .i64 (mid : Int)) ∧ At f 20 (.int .i64 (i : Int)) ∧ At f 24 (.int .i64 (e : Int)) ∧ Nx σ s (.row A t) ∧ Row s A n c t keyE (rotd xs i m e) ∧ At f 199 (.bool (decide (a < i ∧ i < mid)))) ?_ ?_
  · refine WC.region ?_
    (repeat (first | refine go ?_ | refine goR ?_ | refine goS (fun yc hyc => ?_) | refine goL (fun _ _ => inferInstance) ?_ | with_reducible intro _ | refine goO (by first | omega | (simp only [List.length_cons, List.length_nil]; omega)) ?_ | fail))
    refine WL.part rfl ?_ ?_ <;> intro hg
    · have hg : a < i := by simpa using hg
      (repeat (first | refine go ?_ | refine goR ?_ | refine goS (fun yc hyc => ?_) | refine goL (fun _ _ => inferInstance) ?_ | with_reducible intro _ | refine goO (by first | omega | (simp only [List.length_cons, List.length_nil]; omega)) ?_ | fail))
      exact ⟨rfl, inferInstance, inferInstance, inferInstance, inferInstance, inferInstance, inferInstance, inferInstance, inferInstance, Sx.nx (inferInstance : Sx σ (.row A t) _), inferInstance, At.to (.bool (decide ((i : Int) < (mid : Int)))) (by simp [hg])⟩
    · have hg : ¬ a < i := by simpa using hg
      (repeat (first | refine go ?_ | refine goR ?_ | refine goS (fun yc hyc => ?_) | refine goL (fun _ _ => inferInstance) ?_ | with_reducible intro _ | refine goO (by first | omega | (simp only [List.length_cons, List.length_nil]; omega)) ?_ | fail))
      exact ⟨rfl, inferInstance, inferInstance, inferInstance, inferInstance, inferInstance, inferInstance, inferInstance, inferInstance, Sx.nx (inferInstance : Sx σ (.row A t) _), inferInstance, At.to (.bool false) (by simp [hg])⟩
  rintro f s ⟨a0, a1, a2, a3, a4, a18, a20, a24, hs, hr, aG⟩
  (repeat (first | refine go ?_ | refine goS (fun yc hyc => ?_) | refine goL (fun _ _ => inferInstance) ?_ | with_reducible intro _ | refine goO (by first | omega | (simp only [List.length_cons, List.length_nil]; omega)) ?_ | fail))
  refine WC.cut (fun f s => At f 0 (.slice A n c) ∧ At f 1 (.int .i64 (a : Int)) ∧ At f 2 (.int .i64 (m : Int)) ∧ At f 3 (.int .i64 (b : Int)) ∧ At f 4 fv ∧ At f 18 (.int .i64 (mid : Int)) ∧ At f 20 (.int .i64 (i : Int)) ∧ At f 24 (.int .i64 (e : Int)) ∧ Nx σ s (.row A t) ∧ ∃ ys1, Row s A n c t keyE ys1 ∧ InsTo r (rotd xs i m e) a mid ys1) ?_ ?_
  · refine WC.cond ?_ ?_ <;> intro hg
    · have hg : a < i ∧ i < mid := by simpa using hg
      (repeat (first | refine go ?_ | refine goS (fun yc hyc => ?_) | refine goL (fun _ _ => inferInstance) ?_ | with_reducible intro _ | refine goO (by first | omega | (simp only [List.length_cons, List.length_nil]; omega)) ?_ | fail))
      refine WC.region ?_
      (repeat (first | refine go ?_ | refine goS (fun yc hyc => ?_) | refine goL (fun _ _ => inferInstance) ?_ | with_reducible intro _ | refine goO (by first | omega | (simp only [List.length_cons, List.length_nil]; omega)) ?_ | fail))
      refine ⟨⟨by omega, k1, k2⟩, ?_⟩
      intro s1 ys1 hn1 hr1 hi1
      (repeat (first | refine go ?_ | refine goS (fun yc hyc => ?_) | refine goL (fun _ _ => inferInstance) ?_ | with_reducible intro _ | refine goO (by first | omega | (simp only [List.length_cons, List.length_nil]; omega)) ?_ | fail))
      exact ⟨rfl, inferInstance, inferInstance, inferInstance, inferInstance, inferInstance, inferInstance, inferInstance, inferInstance, Sx.nx (inferInstance : Sx σ (.row A t) _), ys1, inferInstance, hi1⟩
    · have hg : ¬ (a < i ∧ i < mid) := by simpa using hg
      (repeat (first | refine go ?_ | refine goR ?_ | refine goS (fun yc hyc => ?_) | refine goL (fun _ _ => inferInstance) ?_ | with_reducible intro _ | refine goO (by first | omega | (simp only [List.length_cons, List.length_nil]; omega)) ?_ | fail))
      exact ⟨rfl, inferInstance, inferInstance, inferInstance, inferInstance, inferInstance, inferInstance, inferInstance, inferInstance, Sx.nx (inferInstance : Sx σ (.row A t) _), _, inferInstance, k3 (by omega)⟩
  rintro f s ⟨a0, a1, a2, a3, a4, a18, a20, a24, hs, ys1, hr, hi1⟩
  obtain ⟨l1, l2, l3, l4⟩ := k4 ys1 hi1
  (repeat (first | refine go ?_ | refine goS (fun yc hyc => ?_) | refine goL (fun _ _ => inferInstance) ?_ | with_reducible intro _ | refine goO (by first | omega | (simp only [List.length_cons, List.length_nil]; omega)) ?_ | fail))
  refine WC.cut (fun f s => At f 0 (.slice A n c) ∧ At f 1 (.int .i64 (a : Int)) ∧ At f 2 (.int .i64 (m : Int)) ∧ At f 3 (.int .i64 (b : Int)) ∧ At f 4 fv ∧ At f 18 (.int .i64 (mid : Int)) ∧ At f 20 (.int .i64 (i : Int)) ∧ At f 24 (.int .i64 (e : Int)) ∧ Nx σ s (.row A t) ∧ Row s A n c t keyE ys1 ∧ At f 213 (.bool (decide (mid < e ∧ e < b)))) ?_ ?_
  · refine WC.region ?_
    (repeat (first | refine go ?_ | refine goR ?_ | refine goS (fun yc hyc => ?_) | refine goL (fun _ _ => inferInstance) ?_ | with_reducible intro _ | refine goO (by first | omega | (simp only [List.length_cons, List.length_nil]; omega)) ?_ | fail))
    refine WL.part rfl ?_ ?_ <;> intro hg
    · have hg : mid < e := by simpa using hg
      (repeat (first | refine go ?_ | refine goR ?_ | refine goS (fun yc hyc => ?_) | refine goL (fun _ _ => inferInstance) ?_ | with_reducible intro _ | refine goO (by first | omega | (simp only [List.length_cons, List.length_nil]; omega)) ?_ | fail))
      exact ⟨rfl, inferInstance, inferInstance, inferInstance, inferInstance, inferInstance, inferInstance, inferInstance, inferInstance, Sx.nx (inferInstance : Sx σ (.row A t) _), inferInstance, At.to (.bool (decide ((e : Int) < (b : Int)))) (by simp [hg])⟩
    · have hg : ¬ mid < e := by simpa using hg
      (repeat (first | refine go ?_ | refine goR ?_ | refine goS (fun yc hyc => ?_) | refine goL (fun _ _ => inferInstance) ?_ | with_reducible intro _ | refine goO (by first | omega | (simp only [List.length_cons, List.length_nil]; omega)) ?_ | fail))
      exact ⟨rfl, inferInstance, inferInstance, inferInstance, inferInstance, inferInstance, inferInstance, inferInstance, inferInstance, Sx.nx (inferInstance : Sx σ (.row A t) _), inferInstance, At.to (.bool false) (by simp [hg])⟩
  rintro f s ⟨a0, a1, a2, a3, a4, a18, a20, a24, hs, hr, aG⟩
  (repeat (first | refine go ?_ | refine goS (fun yc hyc => ?_) | refine goL (fun _ _ => inferInstance) ?_ | with_reducible intro _ | refine goO (by first | omega | (simp only [List.length_cons, List.length_nil]; omega)) ?_ | fail))
  refine WC.cond ?_ ?_ <;> intro hg
  · have hg : mid < e ∧ e < b := by simpa using hg
    (repeat (first | refine go ?_ | refine goS (fun yc hyc => ?_) | refine goL (fun _ _ => inferInstance) ?_ | with_reducible intro _ | refine goO (by first | omega | (simp only [List.length_cons, List.length_nil]; omega)) ?_ | fail))
    refine WC.region ?_
    (repeat (first | refine go ?_ | refine goS (fun yc hyc => ?_) | refine goL (fun _ _ => inferInstance) ?_ | with_reducible intro _ | refine goO (by first | omega | (simp only [List.length_cons, List.length_nil]; omega)) ?_ | fail))
    refine ⟨⟨by omega, l1, l2⟩, ?_⟩
    intro s1 ys2 hn1 hr1 hi2
    (repeat (first | refine go ?_ | refine goS (fun yc hyc => ?_) | refine goL (fun _ _ => inferInstance) ?_ | with_reducible intro _ | refine goO (by first | omega | (simp only [List.length_cons, List.length_nil]; omega)) ?_ | fail))
    exact res0n Try.results78 (hK _ _ (Sx.nx inferInstance) inferInstance (l4 _ hi2))
  · have hg : ¬ (mid < e ∧ e < b) := by simpa using hg
    (repeat (first | refine go ?_ | refine goR ?_ | refine goS (fun yc hyc => ?_) | refine goL (fun _ _ => inferInstance) ?_ | with_reducible intro _ | refine goO (by first | omega | (simp only [List.length_cons, List.length_nil]; omega)) ?_ | fail))
    exact res0n Try.results78 (hK _ _ (Sx.nx inferInstance) inferInstance (l4 _ (l3 (by omega))))
end
end Go.Proofs.Ythdhnkgnbdociaa
