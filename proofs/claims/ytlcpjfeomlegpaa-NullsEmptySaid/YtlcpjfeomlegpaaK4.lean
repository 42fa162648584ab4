/- keys: place, Has, Insert, Remove, Distinct; the reference's, by contract. No condition. -/
import Derived.Test.YtlcpjfeomlegpaaSlKey
import Derived.Test.YtlcpjfeomlegpaaKm
set_option linter.all false
set_option maxHeartbeats 40000000
set_option synthInstance.maxHeartbeats 2000000
set_option synthInstance.maxSize 100000
namespace Go.Proofs.Ytlcpjfeomlegpaa
open Go Go.RowKit
section
variable {σ : St} {A B : Option Addr} {n c m d : Nat} {xs ys : List Key} {k : Key}
instance rule_above {b : Nat} {x : Key} {bb : Bool} {t : TypeId} [o : Own σ b t (kc k)] [q : BV (klt k x) bb] : CallRule Try.prog 38 [.agg (kc x), .pointer (some ⟨b, 0, none⟩)] σ (fun K _ => ∀ σ', Nx σ σ' .no → K (.bool bb) σ') := ⟨fun K E hK => by
  have hq := q.eq; subst hq
  refine calls_enter Try.func38 rfl _ Try.ntmps38 rfl ?_
  (repeat (first | refine go ?_ | refine goR ?_ | refine goS (fun yc hyc => ?_) | refine goL (fun _ _ => inferInstance) ?_ | with_reducible intro _ | refine goO (by first | omega | (simp only [List.length_cons, List.length_nil]; omega)) ?_ | fail))
  exact back1 (σ0 := σ) Try.results38 (fun σ' _ _ => hK σ' inferInstance)⟩
instance clos_above : Clos1 Try.prog 38 29 (kc k) keyE (fun x => klt k x) := ⟨fun σ b x o _ => inferInstance⟩
instance rule_place [h : SL σ A n c keyE xs] {i : Nat} {bb : Bool} [q1 : Is (placeI xs k) i] [q2 : BV (hasK xs k) bb] : CallRule Try.prog 28 [.slice A n c, .agg (kc k)] σ (fun K _ => (n ≤ 200000000000) ∧ ∀ σ', Nx σ σ' .no → K (.tuple #[.int .i64 (i : Int), .bool bb]) σ') := ⟨fun K E hK => by
  have hq := q1.eq; subst hq
  have hq := q2.eq; subst hq
  obtain ⟨hn, hK⟩ := hK
  have hl := h.len
  have hm := h.max
  by_cases hs : Srt kcmp xs
  · haveI : BV (decide (Srt kcmp xs)) true := ⟨by simpa using hs⟩
    have hp := low_place (k := k) hs
    haveI : Is (lowI kcmp xs k) (placeI xs k) := ⟨hp.1⟩
    haveI : BV (decide (placeI xs k < n ∧ kcmp xs[placeI xs k]! k = 0)) (hasK xs k) := ⟨by rw [← hp.1, ← hl]; exact hp.2⟩
    refine calls_enter Try.func28 rfl _ Try.ntmps28 rfl ?_
    (repeat (first | refine go ?_ | refine goR ?_ | refine goS (fun yc hyc => ?_) | refine goL (fun _ _ => inferInstance) ?_ | with_reducible intro _ | refine goO (by first | omega | (simp only [List.length_cons, List.length_nil]; omega)) ?_ | fail))
    refine goO ⟨by omega, hs⟩ ?_
    (repeat (first | refine go ?_ | refine goR ?_ | refine goS (fun yc hyc => ?_) | refine goL (fun _ _ => inferInstance) ?_ | with_reducible intro _ | refine goO (by first | omega | (simp only [List.length_cons, List.length_nil]; omega)) ?_ | fail))
    exact back2 (σ0 := σ) Try.results28 (fun σ' _ _ => hK σ' inferInstance)
  haveI : BV (decide (Srt kcmp xs)) false := ⟨by simpa using hs⟩
  cases h1 : xs.findIdx? (fun x => decide (x = k)) with
  | some i =>
    haveI : Is (xs.findIdx? fun x => decide (x = k)) (some i) := ⟨h1⟩
    haveI : BV (decide (0 ≤ (i : Int))) true := ⟨by simp⟩
    have hp : placeI xs k = i := by unfold placeI; rw [h1]
    have hh : hasK xs k = true := by rw [← hasK_idx, h1]; rfl
    rw [hp, hh] at hK
    refine calls_enter Try.func28 rfl _ Try.ntmps28 rfl ?_
    (repeat (first | refine go ?_ | refine goR ?_ | refine goS (fun yc hyc => ?_) | refine goL (fun _ _ => inferInstance) ?_ | with_reducible intro _ | refine goO (by first | omega | (simp only [List.length_cons, List.length_nil]; omega)) ?_ | fail))
    exact back2 (σ0 := σ) Try.results28 (fun σ' _ _ => hK σ' inferInstance)
  | none =>
    haveI : Is (xs.findIdx? fun x => decide (x = k)) none := ⟨h1⟩
    haveI : BV (decide (0 ≤ (-1 : Int))) false := ⟨by simp⟩
    have hh : hasK xs k = false := by rw [← hasK_idx, h1]; rfl
    have hp := placeI_new hh
    rw [hp, hh] at hK
    cases h2 : xs.findIdx? (fun x => klt k x) with
    | some i =>
      haveI : Is (xs.findIdx? fun x => klt k x) (some i) := ⟨h2⟩
      haveI : BV (decide (0 ≤ (i : Int))) true := ⟨by simp⟩
      rw [h2] at hK
      refine calls_enter Try.func28 rfl _ Try.ntmps28 rfl ?_
      (repeat (first | refine go ?_ | refine goR ?_ | refine goS (fun yc hyc => ?_) | refine goL (fun _ _ => inferInstance) ?_ | with_reducible intro _ | refine goO (by first | omega | (simp only [List.length_cons, List.length_nil]; omega)) ?_ | fail))
      exact back2 (σ0 := σ) Try.results28 (fun σ' _ _ => hK σ' inferInstance)
    | none =>
      haveI : Is (xs.findIdx? fun x => klt k x) none := ⟨h2⟩
      rw [h2, Option.getD_none, hl] at hK
      refine calls_enter Try.func28 rfl _ Try.ntmps28 rfl ?_
      (repeat (first | refine go ?_ | refine goR ?_ | refine goS (fun yc hyc => ?_) | refine goL (fun _ _ => inferInstance) ?_ | with_reducible intro _ | refine goO (by first | omega | (simp only [List.length_cons, List.length_nil]; omega)) ?_ | fail))
      exact back2 (σ0 := σ) Try.results28 (fun σ' _ _ => hK σ' inferInstance)⟩
instance rule_keys_Insert [h : SL σ A n c keyE xs] {bb : Bool} {zs : List Key} [q3 : Is (insK xs k) zs] [q2 : BV (!hasK xs k) bb] : CallRule Try.prog 19 [.slice A n c, .agg (kc k)] σ (fun K _ => (n ≤ 200000000000) ∧ ∀ σ' A' c', Nx σ σ' .no → SL σ' A' zs.length c' keyE zs → K (.tuple #[.slice A' zs.length c', .bool bb]) σ') := ⟨fun K E hK => by
  have hz := q3.eq; subst hz
  obtain ⟨hn, hK⟩ := hK
  have hq := q2.eq
  have hl := h.len
  cases hh : hasK xs k with
  | true =>
    haveI : BV (hasK xs k) true := ⟨hh⟩
    have e : insK xs k = xs := by unfold insK; rw [if_pos hh]
    have hb : bb = false := by rw [← hq, hh]; rfl
    subst hb
    rw [e, hl] at hK
    refine calls_enter Try.func19 rfl _ Try.ntmps19 rfl ?_
    (repeat (first | refine go ?_ | refine goR ?_ | refine goS (fun yc hyc => ?_) | refine goL (fun _ _ => inferInstance) ?_ | with_reducible intro _ | refine goO (by first | omega | (simp only [List.length_cons, List.length_nil]; omega)) ?_ | fail))
    exact back2 (σ0 := σ) Try.results19 (fun σ' _ _ => hK σ' _ _ inferInstance inferInstance)
  | false =>
    haveI : BV (hasK xs k) false := ⟨hh⟩
    have hb : bb = true := by rw [← hq, hh]; rfl
    subst hb
    haveI : LeN (placeI xs k) n := ⟨by rw [← hl]; exact placeI_le xs k⟩
    have e : insK xs k = xs.take (placeI xs k) ++ k :: xs.drop (placeI xs k) := by
      unfold insK; rw [if_neg (by simp [hh]), kput_at, ← placeI_new hh]
    have e2 : (insK xs k).length = n + 1 := by
      unfold insK; rw [if_neg (by simp [hh]), (kput_perm xs k).length_eq]; simp [hl]
    rw [e2, e] at hK
    refine calls_enter Try.func19 rfl _ Try.ntmps19 rfl ?_
    (repeat (first | refine go ?_ | refine goR ?_ | refine goS (fun yc hyc => ?_) | refine goL (fun _ _ => inferInstance) ?_ | with_reducible intro _ | refine goO (by first | omega | (simp only [List.length_cons, List.length_nil]; omega)) ?_ | fail))
    refine WC.draw [5] (.p 0 (.p 2 (.l 3 (.f 1 (.h 4 (.h 5 (.p 6 (.p 7 .nil)))) 4 (.h 1 (.h 5 (.p 6 (.p 7 .nil)))))))) mixed (by decide +kernel) ?_
    (repeat' (first | refine go ?_ | refine goR ?_ | refine goS (fun yc hyc => ?_) | refine goL (fun _ _ => inferInstance) ?_ | refine goF ?_ ?_ | with_reducible intro _ | refine goO (by first | omega | (simp only [List.length_cons, List.length_nil]; omega)) ?_ | fail))
    all_goals exact back2 (σ0 := σ) Try.results19 (fun σ' _ _ => hK σ' _ _ inferInstance inferInstance)⟩
instance rule_keys_Remove [h : SL σ A n c keyE xs] {bb : Bool} {zs : List Key} [q3 : Is (remK xs k) zs] [q2 : BV (hasK xs k) bb] : CallRule Try.prog 22 [.slice A n c, .agg (kc k)] σ (fun K _ => (n ≤ 200000000000) ∧ ∀ σ' A' c', Nx σ σ' .no → SL σ' A' zs.length c' keyE zs → K (.tuple #[.slice A' zs.length c', .bool bb]) σ') := ⟨fun K E hK => by
  have hz := q3.eq; subst hz
  obtain ⟨hn, hK⟩ := hK
  have hq := q2.eq
  have hl := h.len
  cases hh : hasK xs k with
  | true =>
    haveI : BV (hasK xs k) true := ⟨hh⟩
    have hb : bb = true := by rw [← hq, hh]
    subst hb
    have hlt : placeI xs k < n := by rw [← hl]; exact placeI_lt hh
    haveI : LeN (placeI xs k + 1) n := ⟨hlt⟩
    haveI : LeN (placeI xs k) (placeI xs k + 1) := ⟨by omega⟩
    haveI : Fits .i64 ((placeI xs k : Int) + 1) := Fits.i64 (by omega) (by omega)
    have e := remK_at xs k hh
    have e2 : (remK xs k).length = placeI xs k + (n - (placeI xs k + 1)) := by rw [e]; simp; omega
    rw [e2, e] at hK
    refine calls_enter Try.func22 rfl _ Try.ntmps22 rfl ?_
    (repeat (first | refine go ?_ | refine goR ?_ | refine goS (fun yc hyc => ?_) | refine goL (fun _ _ => inferInstance) ?_ | with_reducible intro _ | refine goO (by first | omega | (simp only [List.length_cons, List.length_nil]; omega)) ?_ | fail))
    exact back2 (σ0 := σ) Try.results22 (fun σ' _ _ => hK σ' _ _ inferInstance inferInstance)
  | false =>
    haveI : BV (hasK xs k) false := ⟨hh⟩
    have hb : bb = false := by rw [← hq, hh]
    subst hb
    rw [remK_not xs k hh, hl] at hK
    refine calls_enter Try.func22 rfl _ Try.ntmps22 rfl ?_
    (repeat (first | refine go ?_ | refine goR ?_ | refine goS (fun yc hyc => ?_) | refine goL (fun _ _ => inferInstance) ?_ | with_reducible intro _ | refine goO (by first | omega | (simp only [List.length_cons, List.length_nil]; omega)) ?_ | fail))
    exact back2 (σ0 := σ) Try.results22 (fun σ' _ _ => hK σ' _ _ inferInstance inferInstance)⟩
instance rule_keys_Distinct [h : SL σ A n c keyE xs] {bb : Bool} [q2 : BV (distK xs) bb] : CallRule Try.prog 25 [.slice A n c] σ (fun K _ => (n ≤ 200000000000) ∧ ∀ σ', Nx σ σ' .no → K (.bool bb) σ') := ⟨fun K E hK => by
  obtain ⟨hn, hK⟩ := hK
  have hq := q2.eq; subst hq
  have hl := h.len
  have hsl := ksort_length xs
  refine calls_enter Try.func25 rfl _ Try.ntmps25 rfl ?_
  (repeat (first | refine go ?_ | refine goR ?_ | refine goS (fun yc hyc => ?_) | refine goL (fun _ _ => inferInstance) ?_ | with_reducible intro _ | refine goO (by first | omega | (simp only [List.length_cons, List.length_nil]; omega)) ?_ | fail))
  refine WC.loopW 8388500 .no (fun (i : Nat) f s => At f 4 (.int .i64 (i : Int)) ∧ 1 ≤ i ∧ i ≤ n + 1 ∧ ∀ j, 0 < j → j < i → j < n → ¬ (ksort xs)[j]! = (ksort xs)[j - 1]!) (fun i => n + 1 - i) 1 ⟨At.to (.int .i64 1) rfl, Nat.le_refl _, by omega, fun j h1 h2 => by omega⟩ ?_
  rintro i f s ha hs ⟨a4, hi1, hin, hd⟩
  by_cases hlt : i < n
  · haveI : BV (decide ((i : Int) < (n : Int))) true := ⟨by simpa using hlt⟩
    haveI : IdxLt i n := ⟨hlt⟩
    haveI : IdxLt (i - 1) n := ⟨by omega⟩
    haveI : LeN 1 i := ⟨hi1⟩
    haveI : Fits .i64 ((i : Int) - 1) := Fits.i64 (by omega) (by omega)
    haveI : Fits .i64 ((i : Int) + 1) := Fits.i64 (by omega) (by omega)
    by_cases he : (ksort xs)[i]! = (ksort xs)[i - 1]!
    · haveI : BV (decide ((ksort xs)[i]! = (ksort xs)[i - 1]!)) true := ⟨by simpa using he⟩
      (repeat (first | refine go ?_ | refine goR ?_ | refine goS (fun yc hyc => ?_) | refine goL (fun _ _ => inferInstance) ?_ | with_reducible intro _ | refine goO (by first | omega | (simp only [List.length_cons, List.length_nil]; omega)) ?_ | fail))
      refine WC.draw [] (.p 0 (.p 1 (.l 2 (.l 3 (.p 4 (.p 5 (.p 6 (.l 7 (.l 8 (.p 9 .nil)))))))))) mixed (by decide +kernel) ?_
      (repeat (first | refine go ?_ | refine goR ?_ | refine goS (fun yc hyc => ?_) | refine goL (fun _ _ => inferInstance) ?_ | with_reducible intro _ | refine goO (by first | omega | (simp only [List.length_cons, List.length_nil]; omega)) ?_ | fail))
      rw [not_dist_sorted (by omega) (by omega) he] at hK
      exact back1 (σ0 := σ) Try.results25 (fun σ' _ _ => hK σ' inferInstance)
    · haveI : BV (decide ((ksort xs)[i]! = (ksort xs)[i - 1]!)) false := ⟨by simpa using he⟩
      (repeat (first | refine go ?_ | refine goR ?_ | refine goS (fun yc hyc => ?_) | refine goL (fun _ _ => inferInstance) ?_ | with_reducible intro _ | refine goO (by first | omega | (simp only [List.length_cons, List.length_nil]; omega)) ?_ | fail))
      refine WC.draw [] (.p 0 (.p 1 (.l 2 (.l 3 (.p 4 (.p 5 (.p 6 (.l 7 (.l 8 (.p 9 .nil)))))))))) mixed (by decide +kernel) ?_
      (repeat (first | refine go ?_ | refine goR ?_ | refine goS (fun yc hyc => ?_) | refine goL (fun _ _ => inferInstance) ?_ | with_reducible intro _ | refine goO (by first | omega | (simp only [List.length_cons, List.length_nil]; omega)) ?_ | fail))
      refine loop_w (i + 1) ⟨At.to (.int .i64 ((i : Int) + 1)) (by simp), by omega, by omega, fun j h1 h2 h3 => ?_⟩ (by omega)
      by_cases e : j = i
      · subst e; exact he
      · exact hd j h1 (by omega) h3
  · haveI : BV (decide ((i : Int) < (n : Int))) false := ⟨by simpa using hlt⟩
    (repeat (first | refine go ?_ | refine goR ?_ | refine goS (fun yc hyc => ?_) | refine goL (fun _ _ => inferInstance) ?_ | with_reducible intro _ | refine goO (by first | omega | (simp only [List.length_cons, List.length_nil]; omega)) ?_ | fail))
    rw [dist_sorted (fun j h1 h2 => hd j h1 (by omega) (by omega))] at hK
    exact back1 (σ0 := σ) Try.results25 (fun σ' _ _ => hK σ' inferInstance)⟩
instance rule_ref_Less {a b : Key} {bb : Bool} [q : BV (klt a b) bb] : CallRule Try.prog 34 [.agg (kc a), .agg (kc b)] σ (fun K _ => ∀ σ', Nx σ σ' .no → K (.bool bb) σ') := ⟨fun K E hK => by
  have hq := q.eq; subst hq
  have la : a.toList.length = 32 := by simp
  have lb : b.toList.length = 32 := by simp
  have ga : ∀ (k : Key) (i : Nat), i < 32 → k.toList[i]! = k[i]! := fun k i hi => by rw [getElem!_pos _ i (by simpa using hi), getElem!_pos k i hi]; simp
  refine calls_enter Try.func34 rfl _ Try.ntmps34 rfl ?_
  (repeat (first | refine go ?_ | refine goR ?_ | refine goS (fun yc hyc => ?_) | refine goL (fun _ _ => inferInstance) ?_ | with_reducible intro _ | refine goO (by first | omega | (simp only [List.length_cons, List.length_nil]; omega)) ?_ | fail))
  refine WC.loopW 16777200 .no (fun (i : Nat) f s => At f 5 (.int .i64 (i : Int)) ∧ i ≤ 32 ∧ a.toList.take i = b.toList.take i) (fun i => 32 - i) 0 ⟨At.to (.int .i64 0) rfl, Nat.zero_le _, rfl⟩ ?_
  rintro i f s ha hs ⟨a5, hi, ht⟩
  by_cases hlt : i < 32
  · haveI : BV (decide ((i : Int) < 32)) true := ⟨by simp; omega⟩
    haveI : IdxLt i 32 := ⟨hlt⟩
    haveI : Fits .i64 ((i : Int) + 1) := Fits.i64 (by omega) (by omega)
    by_cases he : a[i]! = b[i]!
    · haveI : BV (!decide ((a[i]!.toNat : Int) = (b[i]!.toNat : Int))) false := ⟨by simp [he]⟩
      (repeat (first | refine go ?_ | refine goR ?_ | refine goS (fun yc hyc => ?_) | refine goL (fun _ _ => inferInstance) ?_ | with_reducible intro _ | refine goO (by first | omega | (simp only [List.length_cons, List.length_nil]; omega)) ?_ | fail))
      refine WC.draw [] (.p 0 (.l 1 (.l 2 (.p 3 (.l 4 (.l 5 (.p 6 .nil))))))) mixed (by decide +kernel) ?_
      (repeat (first | refine go ?_ | refine goR ?_ | refine goS (fun yc hyc => ?_) | refine goL (fun _ _ => inferInstance) ?_ | with_reducible intro _ | refine goO (by first | omega | (simp only [List.length_cons, List.length_nil]; omega)) ?_ | fail))
      refine loop_w (i + 1) ⟨At.to (.int .i64 ((i : Int) + 1)) (by simp), hlt, ?_⟩ (by omega)
      rw [take_snoc (by omega), take_snoc (by omega), ht, ga a i hlt, ga b i hlt, he]
    · have hne : ¬ a[i]!.toNat = b[i]!.toNat := fun e => he (UInt8.toNat_inj.1 e)
      haveI : BV (!decide ((a[i]!.toNat : Int) = (b[i]!.toNat : Int))) true := ⟨by simp; omega⟩
      (repeat (first | refine go ?_ | refine goR ?_ | refine goS (fun yc hyc => ?_) | refine goL (fun _ _ => inferInstance) ?_ | with_reducible intro _ | refine goO (by first | omega | (simp only [List.length_cons, List.length_nil]; omega)) ?_ | fail))
      refine WC.draw [] (.p 0 (.l 1 (.l 2 (.p 3 (.l 4 (.l 5 (.p 6 .nil))))))) mixed (by decide +kernel) ?_
      (repeat (first | refine go ?_ | refine goR ?_ | refine goS (fun yc hyc => ?_) | refine goL (fun _ _ => inferInstance) ?_ | with_reducible intro _ | refine goO (by first | omega | (simp only [List.length_cons, List.length_nil]; omega)) ?_ | fail))
      refine WC.draw [] (.p 0 (.l 1 (.l 2 (.p 3 (.l 4 (.l 5 (.p 6 (.p 7 .nil)))))))) mixed (by decide +kernel) ?_
      (repeat (first | refine go ?_ | refine goR ?_ | refine goS (fun yc hyc => ?_) | refine goL (fun _ _ => inferInstance) ?_ | with_reducible intro _ | refine goO (by first | omega | (simp only [List.length_cons, List.length_nil]; omega)) ?_ | fail))
      have hd := lexc_diff a.toList b.toList i (by omega) (by omega) ht (by rw [ga a i hlt, ga b i hlt]; exact he)
      have e : klt a b = decide ((a[i]!.toNat : Int) < (b[i]!.toNat : Int)) := by
        unfold klt kcmp
        rw [hd, ga a i hlt, ga b i hlt]
        by_cases hl : a[i]! < b[i]!
        · rw [if_pos hl]
          have := UInt8.lt_iff_toNat_lt.1 hl
          simp; omega
        · rw [if_neg hl]
          have : ¬ a[i]!.toNat < b[i]!.toNat := fun e => hl (UInt8.lt_iff_toNat_lt.2 e)
          simp; omega
      rw [e] at hK
      exact back1 (σ0 := σ) Try.results34 (fun σ' _ _ => hK σ' inferInstance)
  · haveI : BV (decide ((i : Int) < 32)) false := ⟨by simp; omega⟩
    (repeat (first | refine go ?_ | refine goR ?_ | refine goS (fun yc hyc => ?_) | refine goL (fun _ _ => inferInstance) ?_ | with_reducible intro _ | refine goO (by first | omega | (simp only [List.length_cons, List.length_nil]; omega)) ?_ | fail))
    rw [take_all (n := i) (by omega), take_all (n := i) (by omega)] at ht
    have : a = b := Vector.toList_inj.1 ht
    rw [this, klt_irrefl] at hK
    exact back1 (σ0 := σ) Try.results34 (fun σ' _ _ => hK σ' inferInstance)⟩
end
end Go.Proofs.Ytlcpjfeomlegpaa
