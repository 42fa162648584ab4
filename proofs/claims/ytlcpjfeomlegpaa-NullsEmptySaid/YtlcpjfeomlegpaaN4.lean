/- Plain facts on what is spent and undone. No condition. -/
import Derived.Test.YtlcpjfeomlegpaaN1
set_option linter.all false
set_option maxHeartbeats 4000000
namespace Go.Proofs.Ytlcpjfeomlegpaa
open Go Go.RowKit
theorem meetK_nil (l : List Key) : meetK [] l = false := by
  rw [Bool.eq_false_iff]
  intro h
  obtain ⟨k, hk, _⟩ := meetK_iff.1 h
  simp at hk
theorem spend_nil {l : List Key} : spendM [] l = if distK l then some (l.foldl insK []) else none := by
  unfold spendM
  rw [meetK_nil]; rfl
theorem spend_eq {s l : List Key} : spendM s l = chgM insK (fun s k => !hasK s k) s l ∨ spendM s l = none := by
  unfold spendM
  split
  · rename_i h
    simp only [Bool.and_eq_true, Bool.not_eq_true'] at h
    exact .inl (chg_spend _ _ h.1 h.2).symm
  · exact .inr rfl
structure SpOk (s l t : List Key) : Prop where
  srt : Srt kcmp t
  dist : distK t = true
  has : ∀ k, hasK t k = (hasK s k || hasK l k)
  len : t.length = s.length + l.length
  dl : distK l = true
  mt : meetK s l = false
theorem meet_cons {s l : List Key} {k : Key} (h : meetK s (k :: l) = false) : hasK s k = false ∧ meetK s l = false := by
  constructor
  · rw [Bool.eq_false_iff]
    intro h'
    have : meetK s (k :: l) = true := meetK_iff.2 ⟨k, hasK_iff.1 h', by simp⟩
    rw [h] at this; cases this
  · rw [Bool.eq_false_iff]
    intro h'
    obtain ⟨j, hj, hl⟩ := meetK_iff.1 h'
    have : meetK s (k :: l) = true := meetK_iff.2 ⟨j, hj, by simp [hl]⟩
    rw [h] at this; cases this
theorem fold_ok : ∀ (l s : List Key), Srt kcmp s → distK s = true → meetK s l = false → distK l = true → SpOk s l (l.foldl insK s)
  | [], s, hs, hd, hm, hl => ⟨hs, hd, fun k => by simp [hasK], by simp, hl, hm⟩
  | k :: l, s, hs, hd, hm, hl => by
    have hl' := hl
    unfold distK at hl
    simp only [decide_eq_true_eq, List.nodup_cons] at hl
    obtain ⟨h1, h0⟩ := meet_cons hm
    have h2 : meetK (insK s k) l = false := by
      rw [Bool.eq_false_iff]
      intro h
      obtain ⟨j, hj, hlj⟩ := meetK_iff.1 h
      rw [← hasK_iff, has_insK_iff] at hj
      simp only [Bool.or_eq_true, decide_eq_true_eq] at hj
      rcases hj with rfl | hj
      · exact hl.1 hlj
      · have : meetK s l = true := meetK_iff.2 ⟨j, hasK_iff.1 hj, hlj⟩
        rw [h0] at this; cases this
    have ih := fold_ok l (insK s k) (srt_insK k hs) (dist_insK k hd) h2 (by unfold distK; simpa using hl.2)
    have hlen : (insK s k).length = s.length + 1 := by
      unfold insK; rw [if_neg (by simp [h1]), (kput_perm s k).length_eq]; simp
    refine ⟨ih.srt, ih.dist, fun j => ?_, ?_, hl', hm⟩
    · rw [List.foldl_cons, ih.has, has_insK_iff]
      have : hasK (k :: l) j = (decide (j = k) || hasK l j) := by
        by_cases e : j = k
        · subst e; simp [hasK]
        · simp [hasK, e, Ne.symm e]
      rw [this]
      cases decide (j = k) <;> cases hasK s j <;> cases hasK l j <;> rfl
    · rw [List.foldl_cons, ih.len, hlen]; simp; omega
theorem spend_ok {s l t : List Key} (hs : Srt kcmp s) (hd : distK s = true) (h : spendM s l = some t) : SpOk s l t := by
  unfold spendM at h
  split at h
  · rename_i h2
    simp only [Bool.and_eq_true, Bool.not_eq_true'] at h2
    injection h with h; subst h
    exact fold_ok l s hs hd h2.1 h2.2
  · cases h
theorem undo_ok : ∀ (m t : List Key), Srt kcmp t → distK t = true → distK m = true → (∀ k ∈ m, hasK t k = true) → ∃ r, undoM t m = some r ∧ Srt kcmp r ∧ distK r = true ∧ ∀ k, hasK r k = (hasK t k && !hasK m k)
  | [], t, ht, hd, _, _ => ⟨t, rfl, ht, hd, fun k => by simp [hasK]⟩
  | k :: m, t, ht, hd, hm, hin => by
    unfold distK at hm
    simp only [decide_eq_true_eq, List.nodup_cons] at hm
    have hk := hin k (by simp)
    obtain ⟨r, h1, h2, h3, h4⟩ := undo_ok m (remK t k) (srt_remK k ht) (dist_remK hd) (by unfold distK; simpa using hm.2) (fun j hj => by
      rw [has_remK_iff _ _ hd, hin j (by simp [hj])]
      have : j ≠ k := fun e => hm.1 (e ▸ hj)
      simp [this])
    refine ⟨r, ?_, h2, h3, fun j => ?_⟩
    · show (if hasK t k then chgM remK hasK (remK t k) m else none) = _
      rw [if_pos hk]; exact h1
    · rw [h4, has_remK_iff _ _ hd]
      have : hasK (k :: m) j = (decide (j = k) || hasK m j) := by
        by_cases e : j = k
        · subst e; simp [hasK]
        · simp [hasK, e, Ne.symm e]
      rw [this]
      cases decide (j = k) <;> cases hasK t j <;> cases hasK m j <;> rfl
/-- what was spent and undone is as it was -/
theorem undo_spend {s m t : List Key} (hs : Srt kcmp s) (hd : distK s = true) (h : spendM s m = some t) : undoM t m = some s := by
  have ok := spend_ok hs hd h
  obtain ⟨r, h1, h2, h3, h4⟩ := undo_ok m t ok.srt ok.dist ok.dl (fun k hk => by rw [ok.has, hasK_iff.2 hk]; simp)
  rw [h1]
  congr 1
  refine eq_of_has h2 h3 hs hd (fun k => ?_)
  rw [h4, ok.has]
  cases h5 : hasK m k with
  | false => simp
  | true =>
    cases h6 : hasK s k with
    | false => simp
    | true =>
      have : meetK s m = true := meetK_iff.2 ⟨k, hasK_iff.1 h6, hasK_iff.1 h5⟩
      rw [ok.mt] at this; cases this
theorem meet_one {s : List Key} {k : Key} : meetK s [k] = hasK s k := by
  rw [Bool.eq_iff_iff, meetK_iff, hasK_iff]
  exact ⟨fun ⟨j, h1, h2⟩ => by simp at h2; subst h2; exact h1, fun h => ⟨k, h, by simp⟩⟩
theorem dist_ksort (l : List Key) : distK (ksort l) = distK l := by
  unfold distK
  exact decide_eq_decide.2 (ksort_perm l).nodup_iff
theorem has_spent {s l t : List Key} {k : Key} (hs : Srt kcmp s) (hd : distK s = true) (h : spendM s l = some t) (hk : k ∈ l) : hasK t k = true := by
  rw [(spend_ok hs hd h).has, hasK_iff.2 hk]; simp
theorem srt_nil : Srt kcmp [] := List.Pairwise.nil
/-- in two parts as at once -/
theorem spend_app (l m : List Key) : spendM [] (l ++ m) = (spendM [] l).bind fun b => spendM b m := by
  rw [spend_nil, spend_nil]
  cases hl : distK l with
  | false =>
    have : distK (l ++ m) = false := by
      unfold distK at *
      simp only [decide_eq_false_iff_not] at *
      exact fun h => hl (List.nodup_append.1 h).1
    rw [this]; rfl
  | true =>
    simp only [if_true, Option.bind_some]
    have ok := fold_ok l [] srt_nil rfl (meetK_nil l) hl
    unfold spendM
    have e : distK (l ++ m) = (!meetK (l.foldl insK []) m && distK m) := by
      rw [Bool.eq_iff_iff]
      unfold distK at *
      simp only [decide_eq_true_eq, List.nodup_append, Bool.and_eq_true, Bool.not_eq_true'] at *
      constructor
      · rintro ⟨h1, h2, h3⟩
        refine ⟨?_, h2⟩
        rw [Bool.eq_false_iff]
        intro h
        obtain ⟨k, hk, hm⟩ := meetK_iff.1 h
        rw [← hasK_iff, ok.has] at hk
        simp only [hasK, List.any_nil, Bool.false_or] at hk
        have : k ∈ l := by simpa using hk
        exact h3 k this k hm rfl
      · rintro ⟨h1, h2⟩
        refine ⟨hl, h2, fun a ha b hb e => ?_⟩
        subst e
        have : meetK (l.foldl insK []) m = true := meetK_iff.2 ⟨a, hasK_iff.1 (by rw [ok.has, hasK_iff.2 ha]; simp), hb⟩
        rw [h1] at this; cases this
    rw [e]
    rw [List.foldl_append]
end Go.Proofs.Ytlcpjfeomlegpaa
