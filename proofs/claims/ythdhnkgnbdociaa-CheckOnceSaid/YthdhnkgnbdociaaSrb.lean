/- The library's stable sort at keys, of whatever length; keys.Sort. No condition. -/
import Derived.Test.YthdhnkgnbdociaaSym
set_option linter.all false
set_option maxHeartbeats 40000000
set_option synthInstance.maxHeartbeats 2000000
set_option synthInstance.maxSize 100000
namespace Go.Proofs.Ythdhnkgnbdociaa
open Go Go.RowKit
section
variable {α : Type} [Inhabited α] {r : α → α → Int}
def Blk (r : α → α → Int) (bs k : Nat) (zs : List α) : Prop := ∀ j, j < k → Srt r (seg zs (bs * j) (bs * (j + 1)))
theorem Blk.step {bs k a b : Nat} {zs ys : List α} (ha : a = bs * k) (hb : b = bs * (k + 1)) (hl : b ≤ zs.length) (h : Blk r bs k zs) (hi : InsTo r zs a b ys) : Blk r bs (k + 1) ys := by
  have hab : a ≤ b := by rw [ha, hb]; exact Nat.mul_le_mul_left _ (by omega)
  intro j hj
  rcases Nat.lt_or_ge j k with hjk | hjk
  · rw [hi.left hab hl (by rw [ha]; exact Nat.mul_le_mul_left _ (by omega))]
    exact h j hjk
  · have : j = k := by omega
    subst this
    rw [← ha, ← hb]
    exact hi.mid hab hl
theorem Blk.last {bs k a n : Nat} {zs ys : List α} (ha : a = bs * k) (hn : zs.length = n) (han : a ≤ n) (hlt : n < bs * (k + 1)) (h : Blk r bs k zs) (hi : InsTo r zs a n ys) : ∀ j, Srt r (seg ys (bs * j) (bs * (j + 1))) := by
  have hl := hi.length han (by omega)
  intro j
  rcases Nat.lt_or_ge j k with hjk | hjk
  · rw [hi.left han (by omega) (by rw [ha]; exact Nat.mul_le_mul_left _ (by omega))]
    exact h j hjk
  · rcases Nat.lt_or_ge k j with hkj | hkj
    · have : n ≤ bs * j := Nat.le_trans (Nat.le_of_lt hlt) (Nat.mul_le_mul_left _ (by omega))
      have e : seg ys (bs * j) (bs * (j + 1)) = [] := by
        unfold seg
        rw [List.drop_eq_nil_of_le (by omega), List.take_nil]
      rw [e]; exact List.Pairwise.nil
    · have : j = k := by omega
      subst this
      rw [seg_trunc ys (by omega), hl, hn, ← ha]
      exact hi.mid han (by omega)
theorem blk_all {bs n : Nat} {xs zs : List α} (hn : zs.length = n) (hb : n ≤ bs) (hp : zs.Perm xs) (h : ∀ j, Srt r (seg zs (bs * j) (bs * (j + 1)))) : SortedSeg r xs 0 n zs := by
  have h0 := h 0
  rw [Nat.mul_zero, Nat.zero_add, Nat.mul_one] at h0
  have e : seg zs 0 bs = zs := by unfold seg; rw [List.drop_zero]; exact List.take_of_length_le (by omega)
  rw [e] at h0
  have hx := hp.length_eq
  refine ⟨zs, ?_, ?_, h0⟩
  · simp; omega
  · have : seg xs 0 n = xs := by unfold seg; rw [List.drop_zero]; exact List.take_of_length_le (by omega)
    rw [this]; exact hp
end
section
variable {σ : St} {A : Option Addr} {n c : Nat} {t : TypeId} {xs : List Key} {fv : Value} {r : Key → Key → Int}
instance rule_symMerge [h : Row σ A n c t keyE xs] [cf : CmpF Try.prog fv keyE r] [w : Weak r] {ja jm jb : Int} {a m b : Nat} [qa : ToNat ja a] [qm : ToNat jm m] [qb : ToNat jb b] :
    CallRule Try.prog 78 [.slice A n c, .int .i64 ja, .int .i64 jm, .int .i64 jb, fv] σ (fun K _ => ((n < 2305843009213693952 ∧ a < m ∧ m < b ∧ b ≤ n) ∧ Srt r (seg xs a m) ∧ Srt r (seg xs m b)) ∧ ∀ σ' ys, Nx σ σ' (.row A t) → Row σ' A n c t keyE ys → SortedSeg r xs a b ys → K (.tuple #[]) σ') := ⟨fun K E hK => by
  have e1 := qa.eq
  have e2 := qm.eq
  have e3 := qb.eq
  subst e1; subst e2; subst e3
  exact r_symMerge w hK.1.1.1 _ σ xs a m b rfl h hK.1.1.2.1 hK.1.1.2.2.1 hK.1.1.2.2.2 hK.1.2.1 hK.1.2.2 K E hK.2⟩

instance rule_stable [h : Row σ A n c t keyE xs] [cf : CmpF Try.prog fv keyE r] [w : Weak r] {jn : Int} [qn : ToNat jn n] :
    CallRule Try.prog 74 [.slice A n c, .int .i64 jn, fv] σ (fun K _ => (n < 1152921504606846976) ∧ ∀ σ' ys, Nx σ σ' (.row A t) → Row σ' A n c t keyE ys → SortedSeg r xs 0 n ys → K (.tuple #[]) σ') := ⟨fun K E hK => by
  have hl := h.len
  have e1 := qn.eq
  subst e1
  obtain ⟨hn, hK⟩ := hK
  refine calls_enter Try.func74 rfl _ Try.ntmps74 rfl ?_
  (repeat (first | refine go ?_ | refine goR ?_ | refine goS (fun yc hyc => ?_) | refine goL (fun _ _ => inferInstance) ?_ | with_reducible intro _ | refine goO (by first | omega | (simp only [List.length_cons, List.length_nil]; omega)) ?_ | fail))
  refine WC.loop (fun (k : Nat) f s => At f 0 (.slice A n c) ∧ At f 1 (.int .i64 (n : Int)) ∧ At f 2 fv ∧ At f 6 (.int .i64 20) ∧ Nx σ s (.row A t) ∧ ∃ (a b : Nat) (zs : List Key), At f 7 (.int .i64 (a : Int)) ∧ At f 8 (.int .i64 (b : Int)) ∧ Row s A n c t keyE zs ∧ zs.Perm xs ∧ (a = 20 * k ∧ b = 20 * (k + 1) ∧ a ≤ n) ∧ Blk r 20 k zs) (fun k => n - 20 * k) 0
    ⟨inferInstance, inferInstance, inferInstance, inferInstance, Sx.nx (inferInstance : Sx σ (.row A t) _), 0, 20, xs, At.to (.int .i64 0) rfl, At.to (.int .i64 20) rfl, inferInstance, List.Perm.refl _, by omega, fun j hj => by omega⟩ ?_
  rintro k f s ⟨a0, a1, a2, a6, hs, a, b, zs, a7, a8, hr, hp, hab, hB⟩
  have hzl := hp.length_eq
  haveI : Fits .i64 ((b : Int) + 20) := Fits.i64 (by omega) (by omega)
  (repeat (first | refine go ?_ | refine goR ?_ | refine goS (fun yc hyc => ?_) | refine goL (fun _ _ => inferInstance) ?_ | with_reducible intro _ | refine goO (by first | omega | (simp only [List.length_cons, List.length_nil]; omega)) ?_ | fail))
  refine WC.cond ?_ ?_ <;> intro hb1
  · have hbn : b ≤ n := by have := hb1; simp at this; omega
    (repeat (first | refine go ?_ | refine goR ?_ | refine goS (fun yc hyc => ?_) | refine goL (fun _ _ => inferInstance) ?_ | with_reducible intro _ | refine goO (by first | omega | (simp only [List.length_cons, List.length_nil]; omega)) ?_ | fail))
    rename_i s1 ys hn1 hr1 hi1
    refine loop_n (k + 1) ⟨inferInstance, inferInstance, inferInstance, inferInstance, Sx.nx (inferInstance : Sx σ (.row A t) _), b, b + 20, ys, inferInstance, At.to (.int .i64 ((b : Int) + 20)) (by simp), inferInstance, (hi1.perm (by omega) (by omega)).trans hp, by omega, hB.step hab.1 hab.2.1 (by omega) hi1⟩ (by omega)
  have hbn : n < b := by have := hb1; simp at this; omega
  (repeat (first | refine go ?_ | refine goR ?_ | refine goS (fun yc hyc => ?_) | refine goL (fun _ _ => inferInstance) ?_ | with_reducible intro _ | refine goO (by first | omega | (simp only [List.length_cons, List.length_nil]; omega)) ?_ | fail))
  rename_i s1 ys hn1 hr1 hi1
  have hB0 := hB.last hab.1 (by omega : zs.length = n) hab.2.2 (by omega) hi1
  have hp0 := (hi1.perm hab.2.2 (by omega)).trans hp
  refine WC.loop (fun (bs : Nat) f s => At f 0 (.slice A n c) ∧ At f 1 (.int .i64 (n : Int)) ∧ At f 2 fv ∧ At f 6 (.int .i64 (bs : Int)) ∧ Nx σ s (.row A t) ∧ ∃ zs : List Key, Row s A n c t keyE zs ∧ zs.Perm xs ∧ 20 ≤ bs ∧ bs < 2305843009213693952 ∧ ∀ j, Srt r (seg zs (bs * j) (bs * (j + 1)))) (fun bs => n - bs) 20
    ⟨inferInstance, inferInstance, inferInstance, At.to (.int .i64 20) rfl, Sx.nx (inferInstance : Sx σ (.row A t) _), ys, inferInstance, hp0, Nat.le_refl _, by omega, hB0⟩ ?_
  clear hi1 hr1 hn1 hB0 hp0 hB hp hr hs a0 a1 a2 a6 a7 a8
  rintro bs f s ⟨a0, a1, a2, a6, hs, zs, hr, hp, hbs, hbs2, hB⟩
  have hzl := hp.length_eq
  haveI : Fits .i64 (2 * (bs : Int)) := Fits.i64 (by omega) (by omega)
  haveI : Fits .i64 ((bs : Int) * 2) := Fits.i64 (by omega) (by omega)
  (repeat (first | refine go ?_ | refine goR ?_ | refine goS (fun yc hyc => ?_) | refine goL (fun _ _ => inferInstance) ?_ | with_reducible intro _ | refine goO (by first | omega | (simp only [List.length_cons, List.length_nil]; omega)) ?_ | fail))
  refine WC.cond ?_ ?_ <;> intro hb2
  · have hbn : bs < n := by have := hb2; simp at this; omega
    (repeat (first | refine go ?_ | refine goR ?_ | refine goS (fun yc hyc => ?_) | refine goL (fun _ _ => inferInstance) ?_ | with_reducible intro _ | refine goO (by first | omega | (simp only [List.length_cons, List.length_nil]; omega)) ?_ | fail))
    refine WC.loop (fun (k : Nat) f s => At f 0 (.slice A n c) ∧ At f 1 (.int .i64 (n : Int)) ∧ At f 2 fv ∧ At f 6 (.int .i64 (bs : Int)) ∧ Nx σ s (.row A t) ∧ ∃ (a b : Nat) (zs : List Key), At f 7 (.int .i64 (a : Int)) ∧ At f 8 (.int .i64 (b : Int)) ∧ Row s A n c t keyE zs ∧ zs.Perm xs ∧ (a = 2 * bs * k ∧ b = 2 * bs * (k + 1) ∧ a ≤ n ∧ b = a + 2 * bs) ∧ Blk r (2 * bs) k zs ∧ ∀ j, 2 * k ≤ j → Srt r (seg zs (bs * j) (bs * (j + 1)))) (fun k => n - 2 * bs * k) 0
      ⟨inferInstance, inferInstance, inferInstance, inferInstance, Sx.nx (inferInstance : Sx σ (.row A t) _), 0, 2 * bs, zs, At.to (.int .i64 0) rfl, At.to (.int .i64 (2 * (bs : Int))) (by simp), inferInstance, hp, by simp, fun j hj => by omega, fun j _ => hB j⟩ ?_
    clear hr hs hB hp a0 a1 a2 a6
    rintro k f s ⟨a0, a1, a2, a6, hs, a, b, zs, a7, a8, hr, hp, hab, hB, hC⟩
    have hzl := hp.length_eq
    obtain ⟨ha1, hb1', ha2, hb3⟩ := hab
    have e1 : bs * (2 * k) = a := by rw [ha1, Nat.mul_comm 2 bs, Nat.mul_assoc]
    have e2 : bs * (2 * k + 1) = a + bs := by rw [Nat.mul_add, e1, Nat.mul_one]
    have e3 : bs * (2 * k + 1 + 1) = b := by rw [Nat.mul_add, e2, Nat.mul_one]; omega
    have c1 := hC (2 * k) (Nat.le_refl _)
    have c2 := hC (2 * k + 1) (by omega)
    rw [e1, e2] at c1
    rw [e2, e3] at c2
    haveI : Fits .i64 ((a : Int) + (bs : Int)) := Fits.i64 (by omega) (by omega)
    haveI : Fits .i64 ((b : Int) + 2 * (bs : Int)) := Fits.i64 (by omega) (by omega)
    (repeat (first | refine go ?_ | refine goR ?_ | refine goS (fun yc hyc => ?_) | refine goL (fun _ _ => inferInstance) ?_ | with_reducible intro _ | refine goO (by first | omega | (simp only [List.length_cons, List.length_nil]; omega)) ?_ | fail))
    refine WC.cond ?_ ?_ <;> intro hb4
    · have hbn2 : b ≤ n := by have := hb4; simp at this; omega
      (repeat (first | refine go ?_ | refine goR ?_ | refine goS (fun yc hyc => ?_) | refine goL (fun _ _ => inferInstance) ?_ | with_reducible intro _ | refine goO (by first | omega | (simp only [List.length_cons, List.length_nil]; omega)) ?_ | fail))
      refine ⟨⟨by omega, c1, c2⟩, ?_⟩
      intro s1 ys hn1 hr1 hi1
      (repeat (first | refine go ?_ | refine goR ?_ | refine goS (fun yc hyc => ?_) | refine goL (fun _ _ => inferInstance) ?_ | with_reducible intro _ | refine goO (by first | omega | (simp only [List.length_cons, List.length_nil]; omega)) ?_ | fail))
      refine loop_n (k + 1) ⟨inferInstance, inferInstance, inferInstance, inferInstance, Sx.nx (inferInstance : Sx σ (.row A t) _), b, b + 2 * bs, ys, inferInstance, At.to (.int .i64 ((b : Int) + 2 * (bs : Int))) (by simp), inferInstance, (hi1.perm (by omega) (by omega)).trans hp, ⟨hb1', by rw [Nat.mul_add (2 * bs) (k + 1) 1, ← hb1', Nat.mul_one], hbn2, rfl⟩, hB.step ha1 hb1' (by omega) hi1, fun j hj => ?_⟩ (by rw [← ha1, ← hb1']; omega)
      have e5 : b ≤ bs * j := by rw [← e3]; exact Nat.mul_le_mul_left _ (by omega)
      rw [hi1.right (by omega) (by omega) e5]
      exact hC j (by omega)
    have hbn2 : n < b := by have := hb4; simp at this; omega
    (repeat (first | refine go ?_ | refine goR ?_ | refine goS (fun yc hyc => ?_) | refine goL (fun _ _ => inferInstance) ?_ | with_reducible intro _ | refine goO (by first | omega | (simp only [List.length_cons, List.length_nil]; omega)) ?_ | fail))
    refine WC.cut (fun f s => At f 0 (.slice A n c) ∧ At f 1 (.int .i64 (n : Int)) ∧ At f 2 fv ∧ At f 6 (.int .i64 (bs : Int)) ∧ Nx σ s (.row A t) ∧ ∃ ys, Row s A n c t keyE ys ∧ InsTo r zs a n ys) ?_ ?_
    · refine WC.cond ?_ ?_ <;> intro hb5
      · have hmn : a + bs < n := by have := hb5; simp at this; omega
        (repeat (first | refine go ?_ | refine goR ?_ | refine goS (fun yc hyc => ?_) | refine goL (fun _ _ => inferInstance) ?_ | with_reducible intro _ | refine goO (by first | omega | (simp only [List.length_cons, List.length_nil]; omega)) ?_ | fail))
        refine ⟨⟨by omega, c1, ?_⟩, ?_⟩
        · rw [seg_trunc zs (by omega : zs.length ≤ b)] at c2
          rwa [show zs.length = n by omega] at c2
        intro s1 ys hn1 hr1 hi1
        (repeat (first | refine go ?_ | refine goR ?_ | refine goS (fun yc hyc => ?_) | refine goL (fun _ _ => inferInstance) ?_ | with_reducible intro _ | refine goO (by first | omega | (simp only [List.length_cons, List.length_nil]; omega)) ?_ | fail))
        exact ⟨rfl, inferInstance, inferInstance, inferInstance, inferInstance, Sx.nx (inferInstance : Sx σ (.row A t) _), ys, inferInstance, hi1⟩
      · have hmn : n ≤ a + bs := by have := hb5; simp at this; omega
        (repeat (first | refine go ?_ | refine goR ?_ | refine goS (fun yc hyc => ?_) | refine goL (fun _ _ => inferInstance) ?_ | with_reducible intro _ | refine goO (by first | omega | (simp only [List.length_cons, List.length_nil]; omega)) ?_ | fail))
        refine ⟨rfl, inferInstance, inferInstance, inferInstance, inferInstance, Sx.nx (inferInstance : Sx σ (.row A t) _), zs, inferInstance, InsTo.id_ ha2 (by omega) ?_⟩
        rw [seg_trunc zs (by omega : zs.length ≤ a + bs)] at c1
        rwa [show zs.length = n by omega] at c1
    rintro f s ⟨a0, a1, a2, a6, hs, ys, hr, hi1⟩
    (repeat (first | refine go ?_ | refine goR ?_ | refine goS (fun yc hyc => ?_) | refine goL (fun _ _ => inferInstance) ?_ | with_reducible intro _ | refine goO (by first | omega | (simp only [List.length_cons, List.length_nil]; omega)) ?_ | fail))
    refine loop_n (bs * 2) ⟨inferInstance, inferInstance, inferInstance, At.to (.int .i64 ((bs : Int) * 2)) (by simp), Sx.nx (inferInstance : Sx σ (.row A t) _), ys, inferInstance, (hi1.perm ha2 (by omega)).trans hp, by omega, by omega, ?_⟩ (by omega)
    rw [Nat.mul_comm bs 2]
    exact hB.last ha1 (by omega) ha2 (by omega) hi1
  · have hbn : n ≤ bs := by have := hb2; simp at this; omega
    (repeat (first | refine go ?_ | refine goR ?_ | refine goS (fun yc hyc => ?_) | refine goL (fun _ _ => inferInstance) ?_ | with_reducible intro _ | refine goO (by first | omega | (simp only [List.length_cons, List.length_nil]; omega)) ?_ | fail))
    exact res0n Try.results74 (hK _ _ (Sx.nx inferInstance) inferInstance (blk_all (by omega) hbn hp hB))⟩

instance rule_sortStable [h : Row σ A n c t keyE xs] [cf : CmpF Try.prog fv keyE r] [w : Weak r] :
    CallRule Try.prog 66 [.slice A n c, fv] σ (fun K _ => (n < 1152921504606846976) ∧ ∀ σ' ys, Nx σ σ' (.row A t) → Row σ' A n c t keyE ys → SortedSeg r xs 0 n ys → K (.tuple #[]) σ') := ⟨fun K E hK => by
  have hn := hK.1
  refine calls_enter Try.func66 rfl _ Try.ntmps66 rfl ?_
  (repeat (first | refine go ?_ | refine goR ?_ | refine goS (fun yc hyc => ?_) | refine goL (fun _ _ => inferInstance) ?_ | with_reducible intro _ | refine goO (by first | omega | (simp only [List.length_cons, List.length_nil]; omega)) ?_ | fail))
  rename_i s1 ys1 hn1 hr1 hs1
  exact res0n Try.results66 (hK.2 _ _ inferInstance inferInstance hs1)⟩

instance rule_keys_Sort [h : SL σ A n c keyE xs] :
    CallRule Try.prog 57 [.slice A n c] σ (fun K _ => (n ≤ 4398046511104) ∧ ∀ σ' A' c', Nx σ σ' .no → SL σ' A' n c' keyE (ksort xs) → K (.slice A' n c') σ') := ⟨fun K E hK => by
  have hl := h.len
  have hn := hK.1
  refine calls_enter Try.func57 rfl _ Try.ntmps57 rfl ?_
  (repeat (first | refine go ?_ | refine goR ?_ | refine goS (fun yc hyc => ?_) | refine goL (fun _ _ => inferInstance) ?_ | with_reducible intro _ | refine goO (by first | omega | (simp only [List.length_cons, List.length_nil]; omega)) ?_ | fail))
  have hs1 := (by assumption : SortedSeg kcmp (List.take (min n n) xs ++ List.drop (min n n) (List.replicate n key0)) 0 n _)
  have he := (show ∀ ys, SortedSeg kcmp (List.take (min n n) xs ++ List.drop (min n n) (List.replicate n key0)) 0 n ys → ys = ksort xs from fun ys hs1 => by
    have e : List.take (min n n) xs ++ List.drop (min n n) (List.replicate n key0) = xs := by
      rw [Nat.min_self, ← hl, List.take_length, List.drop_eq_nil_of_le (by simp), List.append_nil]
    rw [e] at hs1
    subst hl
    exact hs1.all) _ hs1
  rw [← he] at hK
  exact back1 (σ0 := σ) Try.results57 (fun σ' _ _ => hK.2 σ' _ _ inferInstance inferInstance)⟩
end
end Go.Proofs.Ythdhnkgnbdociaa
