/- The reference's put, Sort, Insert, Remove, Distinct, Meet of keys, by contract. No condition. -/
import Derived.Test.YthdhnkgnbdociaaK4
set_option linter.all false
set_option maxHeartbeats 40000000
set_option synthInstance.maxHeartbeats 2000000
set_option synthInstance.maxSize 100000
namespace Go.Proofs.Ythdhnkgnbdociaa
open Go Go.RowKit
section
variable {σ : St} {A B : Option Addr} {n c m d : Nat} {xs ys : List Key} {k : Key}
instance rule_ref_Distinct [h : SL σ A n c keyE xs] {bb : Bool} [q2 : BV (distK xs) bb] : CallRule Try.prog 24 [.slice A n c] σ (fun K _ => ∀ σ', Nx σ σ' .no → K (.bool bb) σ') := ⟨fun K E hK => by
  have hq := q2.eq; subst hq
  have hl := h.len
  have hm := h.max
  refine calls_enter Try.func24 rfl _ Try.ntmps24 rfl ?_
  (repeat (first | refine go ?_ | refine goR ?_ | refine goS (fun yc hyc => ?_) | refine goL (fun _ _ => inferInstance) ?_ | with_reducible intro _ | refine goO (by first | omega | (simp only [List.length_cons, List.length_nil]; omega)) ?_ | fail))
  refine WC.loopW 262140 .no (fun (i : Nat) f s => At f 3 (.int .i64 (i : Int)) ∧ i ≤ n ∧ distK (xs.take i) = true) (fun i => n - i) 0 ⟨At.to (.int .i64 0) rfl, Nat.zero_le _, rfl⟩ ?_
  rintro i f s ha hs ⟨a3, hi, hd⟩
  by_cases hlt : i < n
  · haveI : BV (decide ((i : Int) < (n : Int))) true := ⟨by simpa using hlt⟩
    haveI : IdxLt i n := ⟨hlt⟩
    haveI : Fits .i64 ((i : Int) + 1) := Fits.i64 (by omega) (by omega)
    have hdt := distK_take (show i < xs.length by omega)
    rw [hd, Bool.true_and] at hdt
    have e0 : (xs.drop 0).take (i - 0) = xs.take i := by simp
    cases hh : hasK (xs.take i) xs[i]! with
    | true =>
      haveI : BV (hasK ((xs.drop 0).take (i - 0)) xs[i]!) true := ⟨by rw [e0]; exact hh⟩
      (repeat (first | refine go ?_ | refine goR ?_ | refine goS (fun yc hyc => ?_) | refine goL (fun _ _ => inferInstance) ?_ | with_reducible intro _ | refine goO (by first | omega | (simp only [List.length_cons, List.length_nil]; omega)) ?_ | fail))
      refine WC.draw [] (.p 0 (.p 1 (.l 2 (.p 3 (.p 4 (.l 5 (.l 6 (.h 7 .nil)))))))) mixed (by decide +kernel) ?_
      (repeat (first | refine go ?_ | refine goR ?_ | refine goS (fun yc hyc => ?_) | refine goL (fun _ _ => inferInstance) ?_ | with_reducible intro _ | refine goO (by first | omega | (simp only [List.length_cons, List.length_nil]; omega)) ?_ | fail))
      have : distK xs = false := by
        rw [hh] at hdt
        unfold distK at hdt ⊢
        simp only [Bool.not_true, decide_eq_false_iff_not] at hdt ⊢
        exact fun h => hdt (h.sublist (List.take_sublist _ _))
      rw [this] at hK
      exact back1 (σ0 := σ) Try.results24 (fun σ' _ _ => hK σ' inferInstance)
    | false =>
      haveI : BV (hasK ((xs.drop 0).take (i - 0)) xs[i]!) false := ⟨by rw [e0]; exact hh⟩
      (repeat (first | refine go ?_ | refine goR ?_ | refine goS (fun yc hyc => ?_) | refine goL (fun _ _ => inferInstance) ?_ | with_reducible intro _ | refine goO (by first | omega | (simp only [List.length_cons, List.length_nil]; omega)) ?_ | fail))
      refine WC.draw [] (.p 0 (.p 1 (.l 2 (.p 3 (.p 4 (.l 5 (.l 6 (.h 7 .nil)))))))) mixed (by decide +kernel) ?_
      (repeat (first | refine go ?_ | refine goR ?_ | refine goS (fun yc hyc => ?_) | refine goL (fun _ _ => inferInstance) ?_ | with_reducible intro _ | refine goO (by first | omega | (simp only [List.length_cons, List.length_nil]; omega)) ?_ | fail))
      refine loop_w (i + 1) ⟨At.to (.int .i64 ((i : Int) + 1)) (by simp), hlt, by rw [hdt, hh]; rfl⟩ (by omega)
  · haveI : BV (decide ((i : Int) < (n : Int))) false := ⟨by simpa using hlt⟩
    rw [take_all (by omega)] at hd
    rw [hd] at hK
    (repeat (first | refine go ?_ | refine goR ?_ | refine goS (fun yc hyc => ?_) | refine goL (fun _ _ => inferInstance) ?_ | with_reducible intro _ | refine goO (by first | omega | (simp only [List.length_cons, List.length_nil]; omega)) ?_ | fail))
    exact back1 (σ0 := σ) Try.results24 (fun σ' _ _ => hK σ' inferInstance)⟩
theorem meetK_take {l m : List Key} {i : Nat} (h : i < l.length) : meetK (l.take (i + 1)) m = (meetK (l.take i) m || hasK m l[i]!) := by
  unfold meetK
  rw [take_snoc h]; simp
instance rule_ref_Meet [h : SL σ A n c keyE xs] [g : SL σ B m d keyE ys] {bb : Bool} [q2 : BV (meetK xs ys) bb] : CallRule Try.prog 30 [.slice A n c, .slice B m d] σ (fun K _ => ∀ σ', Nx σ σ' .no → K (.bool bb) σ') := ⟨fun K E hK => by
  have hq := q2.eq; subst hq
  have hl := h.len
  have hm := h.max
  refine calls_enter Try.func30 rfl _ Try.ntmps30 rfl ?_
  (repeat (first | refine go ?_ | refine goR ?_ | refine goS (fun yc hyc => ?_) | refine goL (fun _ _ => inferInstance) ?_ | with_reducible intro _ | refine goO (by first | omega | (simp only [List.length_cons, List.length_nil]; omega)) ?_ | fail))
  refine WC.loopW 262128 .no (fun (i : Nat) f s => At f 5 (.int .i64 (i : Int)) ∧ i ≤ n ∧ meetK (xs.take i) ys = false) (fun i => n - i) 0 ⟨At.to (.int .i64 0) rfl, Nat.zero_le _, rfl⟩ ?_
  rintro i f s ha hs ⟨a5, hi, hd⟩
  by_cases hlt : i < n
  · haveI : BV (decide ((i : Int) < (n : Int))) true := ⟨by simpa using hlt⟩
    haveI : IdxLt i n := ⟨hlt⟩
    haveI : Fits .i64 ((i : Int) + 1) := Fits.i64 (by omega) (by omega)
    have hdt := meetK_take (m := ys) (show i < xs.length by omega)
    rw [hd, Bool.false_or] at hdt
    cases hh : hasK ys xs[i]! with
    | true =>
      haveI : BV (hasK ys xs[i]!) true := ⟨hh⟩
      (repeat (first | refine go ?_ | refine goR ?_ | refine goS (fun yc hyc => ?_) | refine goL (fun _ _ => inferInstance) ?_ | with_reducible intro _ | refine goO (by first | omega | (simp only [List.length_cons, List.length_nil]; omega)) ?_ | fail))
      have : meetK xs ys = true := meetK_iff.2 ⟨xs[i]!, by rw [getElem!_pos xs i (by omega)]; exact List.getElem_mem _, hasK_iff.1 hh⟩
      rw [this] at hK
      exact back1 (σ0 := σ) Try.results30 (fun σ' _ _ => hK σ' inferInstance)
    | false =>
      haveI : BV (hasK ys xs[i]!) false := ⟨hh⟩
      (repeat (first | refine go ?_ | refine goR ?_ | refine goS (fun yc hyc => ?_) | refine goL (fun _ _ => inferInstance) ?_ | with_reducible intro _ | refine goO (by first | omega | (simp only [List.length_cons, List.length_nil]; omega)) ?_ | fail))
      refine loop_w (i + 1) ⟨At.to (.int .i64 ((i : Int) + 1)) (by simp), hlt, by rw [hdt, hh]⟩ (by omega)
  · haveI : BV (decide ((i : Int) < (n : Int))) false := ⟨by simpa using hlt⟩
    rw [take_all (by omega)] at hd
    rw [hd] at hK
    (repeat (first | refine go ?_ | refine goR ?_ | refine goS (fun yc hyc => ?_) | refine goL (fun _ _ => inferInstance) ?_ | with_reducible intro _ | refine goO (by first | omega | (simp only [List.length_cons, List.length_nil]; omega)) ?_ | fail))
    exact back1 (σ0 := σ) Try.results30 (fun σ' _ _ => hK σ' inferInstance)⟩
end
end Go.Proofs.Ythdhnkgnbdociaa
