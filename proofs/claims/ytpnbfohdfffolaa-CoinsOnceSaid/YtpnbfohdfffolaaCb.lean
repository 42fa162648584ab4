/- Plain facts on coins that are put, taken, and put back. No condition. -/
import Derived.Test.YtpnbfohdfffolaaC6
import Derived.Test.YtpnbfohdfffolaaC9
set_option linter.all false
set_option maxHeartbeats 4000000
namespace Go.Proofs.Ytpnbfohdfffolaa
open Go Go.RowKit
theorem placeC_none {xs : List Cn} {p : Pt} : placeC xs p = none ↔ ∀ x ∈ xs, x.at_ ≠ p := by
  unfold placeC
  rw [List.findIdx?_eq_none_iff]
  simp
theorem plt_ne {a b : Pt} (h : plt a b = true) : a ≠ b := by
  rintro rfl
  rw [plt_irrefl] at h; cases h
theorem foldA_cons (step : List Cn → Cn → Option (List Cn)) (xs : List Cn) (k : Cn) (ys : List Cn) : foldA step xs (k :: ys) = (step xs k).bind fun s => foldA step s ys := by
  unfold foldA
  simp only [List.foldl_cons, Option.bind_some]
  cases step xs k with
  | none => exact foldl_none _ _
  | some s => rfl
theorem mem_cput {xs : List Cn} {k x : Cn} : x ∈ cput xs k ↔ x = k ∨ x ∈ xs := by
  unfold cput
  rw [List.mem_append, List.mem_cons]
  conv => rhs; rw [← List.take_append_drop (putI xs k) xs, List.mem_append]
  constructor
  · rintro (h | h | h)
    · exact .inr (.inl h)
    · exact .inl h
    · exact .inr (.inr h)
  · rintro (h | h | h)
    · exact .inr (.inl h)
    · exact .inl h
    · exact .inr (.inr h)
theorem cput_rise : ∀ {xs : List Cn} {k : Cn}, riseP xs → placeC xs k.at_ = none → riseP (cput xs k)
  | [], k, _, _ => by
    show riseP [k]
    exact List.pairwise_singleton _ _
  | y :: xs, k, h, hp => by
    have h' := List.pairwise_cons.1 h
    rw [placeC_none] at hp
    rw [cput_cons]
    by_cases hk : plt k.at_ y.at_ = true
    · rw [if_pos hk]
      refine List.pairwise_cons.2 ⟨fun x hx => ?_, h⟩
      rcases List.mem_cons.1 hx with rfl | hx
      · exact hk
      · exact plt_trans hk (h'.1 x hx)
    · rw [if_neg hk]
      refine List.pairwise_cons.2 ⟨fun x hx => ?_, cput_rise h'.2 (placeC_none.2 fun x hx => hp x (by simp [hx]))⟩
      rcases mem_cput.1 hx with rfl | hx
      · rcases plt_total (hp y (by simp)) with h1 | h1
        · exact h1
        · exact absurd h1 hk
      · exact h'.1 x hx
/-- what was put is gone again -/
theorem gone_cput : ∀ {xs : List Cn} {k k' : Cn}, k'.at_ = k.at_ → placeC xs k.at_ = none → goneM (cput xs k) k' = some xs := by
  intro xs k k' hk hp
  rw [placeC_none] at hp
  have hle := putI_le xs k
  have h1 : placeC (cput xs k) k'.at_ = some (putI xs k) := by
    unfold placeC cput
    rw [hk]
    refine findIdx_at (by simp; omega) (fun x hx => ?_) ?_
    · rw [List.take_append_of_le_length (by simp; omega), List.take_take, Nat.min_self] at hx
      simpa using hp x (List.mem_of_mem_take hx)
    · have : (xs.take (putI xs k) ++ k :: xs.drop (putI xs k))[putI xs k]! = k := get_mid (by simp; omega)
      rw [this]; simp
  unfold goneM takeM
  rw [h1]
  simp only [if_true, Option.map_some]
  congr 1
  unfold cput
  rw [List.take_append_of_le_length (by simp; omega), List.take_take, Nat.min_self]
  have : (xs.take (putI xs k) ++ k :: xs.drop (putI xs k)).drop (putI xs k + 1) = xs.drop (putI xs k) := by
    rw [List.drop_append, List.drop_of_length_le (by simp; omega)]
    have e : putI xs k + 1 - (xs.take (putI xs k)).length = 1 := by simp; omega
    rw [e]; simp
  rw [this, List.take_append_drop]
theorem putC_inv {xs zs : List Cn} {k : Cn} (h : putC xs k = some zs) : placeC xs k.at_ = none ∧ zs = cput xs k := by
  cases hp : placeC xs k.at_ with
  | none => rw [putC_none hp] at h; injection h with h; exact ⟨rfl, h.symm⟩
  | some i => rw [putC_some hp] at h; cases h
/-- what was put, one behind the other, is gone again -/
theorem gone_all : ∀ {ms ms' us v : List Cn}, ms'.map (·.at_) = ms.map (·.at_) → foldA putC us ms = some v → foldA goneM v ms'.reverse = some us
  | [], ms', us, v, he, h => by
    have : ms' = [] := by simpa using he
    subst this
    injection h with h; subst h; rfl
  | k :: ms, ms', us, v, he, h => by
    match ms', he with
    | k' :: ms', he =>
      simp only [List.map_cons, List.cons.injEq] at he
      rw [foldA_cons] at h
      cases hk : putC us k with
      | none => rw [hk] at h; cases h
      | some s =>
        rw [hk] at h
        simp only [Option.bind_some] at h
        obtain ⟨hp, rfl⟩ := putC_inv hk
        rw [List.reverse_cons, foldA_snoc, gone_all he.2 h]
        exact gone_cput he.1 hp
theorem put_all : ∀ {ms us v : List Cn}, riseP us → foldA putC us ms = some v → riseP v ∧ (∀ x, x ∈ v ↔ x ∈ us ∨ x ∈ ms) ∧ v.length = us.length + ms.length
  | [], us, v, hr, h => by injection h with h; subst h; exact ⟨hr, by simp, by simp⟩
  | k :: ms, us, v, hr, h => by
    rw [foldA_cons] at h
    cases hk : putC us k with
    | none => rw [hk] at h; cases h
    | some s =>
      rw [hk] at h
      simp only [Option.bind_some] at h
      obtain ⟨hp, rfl⟩ := putC_inv hk
      obtain ⟨h1, h2, h3⟩ := put_all (cput_rise hr hp) h
      refine ⟨h1, fun x => ?_, ?_⟩
      · rw [h2, mem_cput, List.mem_cons]
        constructor
        · rintro ((h | h) | h)
          · exact .inr (.inl h)
          · exact .inl h
          · exact .inr (.inr h)
        · rintro (h | h | h)
          · exact .inl (.inr h)
          · exact .inl (.inl h)
          · exact .inr h
      · rw [h3, cput_len]; simp; omega
theorem at_inj {xs : List Cn} (h : riseP xs) {x y : Cn} (hx : x ∈ xs) (hy : y ∈ xs) (e : x.at_ = y.at_) : x = y := by
  obtain ⟨i, hi, rfl⟩ := List.mem_iff_getElem.1 hx
  obtain ⟨j, hj, rfl⟩ := List.mem_iff_getElem.1 hy
  unfold riseP at h
  rw [List.pairwise_iff_getElem] at h
  rcases Nat.lt_trichotomy i j with hij | rfl | hij
  · exact absurd e (plt_ne (h i j hi hj hij))
  · rfl
  · exact absurd e.symm (plt_ne (h j i hj hi hij))
/-- what was taken comes back to its place -/
theorem put_back {s us : List Cn} {p : Pt} {q : Cn → Bool} {k : Cn} (hr : riseP s) (h : takeM s p q = some (k, us)) : putC us k = some s ∧ riseP us ∧ k ∈ s ∧ k.at_ = p ∧ q k = true ∧ (∀ x, x ∈ us ↔ x ∈ s ∧ x.at_ ≠ p) := by
  unfold takeM at h
  split at h
  · cases h
  rename_i i hi
  have hq : q s[i]! = true := by
    by_cases hq : q s[i]! = true
    · exact hq
    · rw [if_neg hq] at h; cases h
  rw [if_pos hq] at h
  injection h with h; injection h with h1 h2
  have hil := findIdx_lt hi
  have hat : s[i]!.at_ = p := by
    unfold placeC at hi
    rw [List.findIdx?_eq_some_iff_getElem] at hi
    rw [getElem!_pos s i hil]
    simpa using hi.2.1
  rw [h1] at hq hat
  have hs : s = s.take i ++ k :: s.drop (i + 1) := by rw [← h1, ← drop_cons hil, List.take_append_drop]
  have hr' := hr
  rw [hs] at hr'
  unfold riseP at hr'
  rw [List.pairwise_append] at hr'
  obtain ⟨r1, r2, r3⟩ := hr'
  have r2' := List.pairwise_cons.1 r2
  have hru : riseP us := by
    rw [← h2]
    refine List.Pairwise.sublist (List.Sublist.append (List.Sublist.refl _) (List.sublist_cons_self k _)) ?_
    rw [← hs]; exact hr
  have hmem : ∀ x, x ∈ us ↔ x ∈ s ∧ x.at_ ≠ p := by
    intro x
    rw [← h2]
    constructor
    · intro hx
      rcases List.mem_append.1 hx with hx | hx
      · exact ⟨List.mem_of_mem_take hx, by rw [← hat]; exact plt_ne (r3 x hx k (by simp))⟩
      · exact ⟨List.mem_of_mem_drop hx, by rw [← hat]; exact (plt_ne (r2'.1 x hx)).symm⟩
    · rintro ⟨hx, hne⟩
      rw [hs] at hx
      rcases List.mem_append.1 hx with hx | hx
      · exact List.mem_append.2 (.inl hx)
      · rcases List.mem_cons.1 hx with rfl | hx
        · exact absurd hat hne
        · exact List.mem_append.2 (.inr hx)
  have hp : placeC us k.at_ = none := placeC_none.2 fun x hx => by rw [hat]; exact ((hmem x).1 hx).2
  refine ⟨?_, hru, by rw [← h1, getElem!_pos s i hil]; exact List.getElem_mem _, hat, hq, hmem⟩
  rw [putC_none hp]
  congr 1
  have hpi : putI us k = i := by
    unfold putI
    have hul : us.length + 1 = s.length := by rw [← h2]; simp; omega
    have hb : ∀ x ∈ us.take i, plt k.at_ x.at_ = false := by
      intro x hx
      rw [← h2, List.take_append_of_le_length (by simp; omega), List.take_take, Nat.min_self] at hx
      exact plt_asymm (r3 x hx k (by simp))
    by_cases hlt : i < us.length
    · rw [findIdx_at hlt hb]
      · rfl
      · have : us[i]! ∈ s.drop (i + 1) := by
          rw [getElem!_pos us i hlt]
          have e : us[i] = (s.take i ++ s.drop (i + 1))[i]'(by rw [h2]; exact hlt) := by simp [h2]
          rw [e, List.getElem_append_right (by simp; omega)]
          exact List.getElem_mem _
        exact r2'.1 _ this
    · rw [findIdx_none]
      · simp; omega
      · intro x hx
        have : us.take i = us := List.take_of_length_le (by omega)
        exact hb x (by rw [this]; exact hx)
  unfold cput
  rw [hpi, ← h2, List.take_append_of_le_length (by simp; omega), List.take_take, Nat.min_self, List.drop_append, List.drop_of_length_le (by simp; omega)]
  have e : i - (s.take i).length = 0 := by simp; omega
  rw [e, List.drop_zero, List.nil_append]
  exact hs.symm
theorem takes_back {q : Cn → Bool} {xs : List Cn} (hr : riseP xs) : ∀ {ps : List Pt} {us sp : List Cn}, takesM q xs ps = some (us, sp) → riseP us ∧ foldA putC us sp.reverse = some xs ∧ us.length + sp.length = xs.length ∧ (∀ x, x ∈ us ↔ x ∈ xs ∧ x.at_ ∉ sp.map (·.at_)) ∧ (∀ x ∈ sp, x ∈ xs) := by
  have key : ∀ (ps : List Pt) (us sp : List Cn), takesM q xs ps.reverse = some (us, sp) → riseP us ∧ foldA putC us sp.reverse = some xs ∧ us.length + sp.length = xs.length ∧ (∀ x, x ∈ us ↔ x ∈ xs ∧ x.at_ ∉ sp.map (·.at_)) ∧ (∀ x ∈ sp, x ∈ xs) := by
    intro ps
    induction ps with
    | nil =>
      intro us sp h
      simp only [List.reverse_nil] at h
      injection h with h; injection h with h1 h2
      subst h1; subst h2
      exact ⟨hr, rfl, by simp, by simp, by simp⟩
    | cons p ps ih =>
      intro us sp h
      rw [List.reverse_cons, takesM_snoc] at h
      cases hm : takesM q xs ps.reverse with
      | none => rw [hm] at h; cases h
      | some r =>
        obtain ⟨s', sp'⟩ := r
        rw [hm] at h
        simp only [Option.bind_some] at h
        cases ht : takeM s' p q with
        | none => rw [ht] at h; cases h
        | some r =>
          obtain ⟨k, us'⟩ := r
          rw [ht] at h
          simp only [Option.map_some] at h
          injection h with h; injection h with h1 h2
          subst h1; subst h2
          obtain ⟨i1, i2, i3, i4, i5⟩ := ih _ _ hm
          obtain ⟨b1, b2, b3, b4, b5, b6⟩ := put_back i1 ht
          have hl := takeM_len ht
          refine ⟨b2, ?_, by simp; omega, fun x => ?_, fun x hx => ?_⟩
          · rw [List.reverse_append, List.reverse_cons, List.reverse_nil, List.nil_append, List.cons_append, List.nil_append, foldA_cons, b1]
            exact i2
          · rw [b6, i4]
            simp only [List.map_append, List.map_cons, List.map_nil, List.mem_append, List.mem_singleton, not_or, b4]
            exact ⟨fun ⟨⟨a, b⟩, c⟩ => ⟨a, b, c⟩, fun ⟨a, b, c⟩ => ⟨⟨a, b⟩, c⟩⟩
          · rcases List.mem_append.1 hx with hx | hx
            · exact i5 x hx
            · rw [List.mem_singleton] at hx; subst hx
              exact ((i4 _).1 b3).1
  intro ps us sp h
  exact key ps.reverse us sp (by rwa [List.reverse_reverse])
/-- what a transaction did is undone -/
theorem apply_back {xs v sp : List Cn} {t : Tx} {id : Key} {h : UInt32} (hr : riseP xs) (ha : applyR xs t id h = (v, sp, 0)) :
    undoR v t id sp = (xs, 0) ∧ riseP v ∧ v.length + sp.length = xs.length + t.outs.l.length ∧ (∀ x, x ∈ v ↔ (x ∈ xs ∧ x.at_ ∉ sp.map (·.at_)) ∨ x ∈ outsM t id h) ∧ (∀ x ∈ sp, x ∈ xs) := by
  unfold applyR at ha
  cases hs : spentM xs t h with
  | none => rw [hs] at ha; simp at ha
  | some r =>
    obtain ⟨us, sp'⟩ := r
    rw [hs] at ha
    simp only at ha
    cases hf : foldA putC us (outsM t id h) with
    | none => rw [hf] at ha; simp at ha
    | some v' =>
      rw [hf] at ha
      simp only [Prod.mk.injEq, and_true] at ha
      obtain ⟨rfl, rfl⟩ := ha
      have key : riseP us ∧ foldA putC us sp'.reverse = some xs ∧ us.length + sp'.length = xs.length ∧ (∀ x, x ∈ us ↔ x ∈ xs ∧ x.at_ ∉ sp'.map (·.at_)) ∧ (∀ x ∈ sp', x ∈ xs) := by
        unfold spentM at hs
        split at hs
        · injection hs with hs; injection hs with h1 h2; subst h1; subst h2
          exact ⟨hr, rfl, by simp, by simp, by simp⟩
        · exact takes_back hr hs
      obtain ⟨k1, k2, k3, k4, k5⟩ := key
      obtain ⟨p1, p2, p3⟩ := put_all k1 hf
      rw [outsM_len] at p3
      refine ⟨?_, p1, by omega, fun x => by rw [p2, k4], k5⟩
      unfold undoR
      rw [gone_all (ms := outsM t id h) (by simp [outsM]) hf]
      simp only
      rw [k2]
theorem apply_err {xs v sp : List Cn} {t : Tx} {id : Key} {h : UInt32} {e : Int} (ha : applyR xs t id h = (v, sp, e)) : e = 0 ∨ (v = [] ∧ sp = [] ∧ (e = 160 ∨ e = 4)) := by
  unfold applyR at ha
  split at ha
  · injection ha with h1 h2; injection h2 with h2 h3; exact .inr ⟨h1.symm, h2.symm, .inl h3.symm⟩
  · split at ha
    · injection ha with h1 h2; injection h2 with h2 h3; exact .inr ⟨h1.symm, h2.symm, .inr h3.symm⟩
    · injection ha with h1 h2; injection h2 with h2 h3; exact .inl h3.symm
end Go.Proofs.Ytpnbfohdfffolaa
