/- keys: place, Has, Insert, Remove, Distinct; the reference's, by contract. No condition. -/
import Derived.Test.YthdhnkgnbdociaaSlKey
import Derived.Test.YthdhnkgnbdociaaKm
import Derived.Test.YthdhnkgnbdociaaKl
set_option linter.all false
set_option maxHeartbeats 40000000
set_option synthInstance.maxHeartbeats 2000000
set_option synthInstance.maxSize 100000
namespace Go.Proofs.Ythdhnkgnbdociaa
open Go Go.RowKit
section
variable {σ : St} {A B : Option Addr} {n c m d : Nat} {xs ys : List Key} {k : Key}
instance rule_keys_Distinct [h : SL σ A n c keyE xs] {bb : Bool} [q2 : BV (distK xs) bb] : CallRule Try.prog 47 [.slice A n c] σ (fun K _ => (n ≤ 200000000000) ∧ ∀ σ', Nx σ σ' .no → K (.bool bb) σ') := ⟨fun K E hK => by
  obtain ⟨hn, hK⟩ := hK
  have hq := q2.eq; subst hq
  have hl := h.len
  have hsl := ksort_length xs
  refine calls_enter Try.func47 rfl _ Try.ntmps47 rfl ?_
  (repeat (first | refine go ?_ | refine goR ?_ | refine goS (fun yc hyc => ?_) | refine goL (fun _ _ => inferInstance) ?_ | with_reducible intro _ | refine goO (by first | omega | (simp only [List.length_cons, List.length_nil]; omega)) ?_ | fail))
  refine WC.loopW 8388500 .no (fun (i : Nat) f s => At f 4 (.int .i64 (i : Int)) ∧ 1 ≤ i ∧ i ≤ n + 1 ∧ ∀ j, 0 < j → j < i → j < n → ¬ (ksort xs)[j]! = (ksort xs)[j - 1]!) (fun i => n + 1 - i) 1 ⟨At.to (.int .i64 1) rfl, Nat.le_refl _, by omega, fun j h1 h2 => by omega⟩ ?_
  rintro i f s ha hs ⟨a4, hi1, hin, hd⟩
  by_cases hlt : i < n
  · haveI : BV (decide ((i : Int) < (n : Int))) true := ⟨by simpa using hlt⟩
    haveI : IdxLt i n := ⟨hlt⟩
    haveI : IdxLt (i - 1) n := ⟨by omega⟩
    haveI : LeN 1 i := ⟨hi1⟩
    haveI : Fits .i64 ((i : Int) - 1) := Fits.i64 (by omega) (by omega)
    haveI : Fits .i64 ((i : Int) + 1) := Fits.i64 (by omega) (by omega)
    by_cases he : (ksort xs)[i]! = (ksort xs)[i - 1]!
    · haveI : BV (decide ((ksort xs)[i]! = (ksort xs)[i - 1]!)) true := ⟨by simpa using he⟩
      (repeat (first | refine go ?_ | refine goR ?_ | refine goS (fun yc hyc => ?_) | refine goL (fun _ _ => inferInstance) ?_ | with_reducible intro _ | refine goO (by first | omega | (simp only [List.length_cons, List.length_nil]; omega)) ?_ | fail))
      refine WC.draw [] (.p 0 (.p 1 (.l 2 (.l 3 (.p 4 (.p 5 (.p 6 (.l 7 (.l 8 (.p 9 .nil)))))))))) mixed (by decide +kernel) ?_
      (repeat (first | refine go ?_ | refine goR ?_ | refine goS (fun yc hyc => ?_) | refine goL (fun _ _ => inferInstance) ?_ | with_reducible intro _ | refine goO (by first | omega | (simp only [List.length_cons, List.length_nil]; omega)) ?_ | fail))
      rw [not_dist_sorted (by omega) (by omega) he] at hK
      exact back1 (σ0 := σ) Try.results47 (fun σ' _ _ => hK σ' inferInstance)
    · haveI : BV (decide ((ksort xs)[i]! = (ksort xs)[i - 1]!)) false := ⟨by simpa using he⟩
      (repeat (first | refine go ?_ | refine goR ?_ | refine goS (fun yc hyc => ?_) | refine goL (fun _ _ => inferInstance) ?_ | with_reducible intro _ | refine goO (by first | omega | (simp only [List.length_cons, List.length_nil]; omega)) ?_ | fail))
      refine WC.draw [] (.p 0 (.p 1 (.l 2 (.l 3 (.p 4 (.p 5 (.p 6 (.l 7 (.l 8 (.p 9 .nil)))))))))) mixed (by decide +kernel) ?_
      (repeat (first | refine go ?_ | refine goR ?_ | refine goS (fun yc hyc => ?_) | refine goL (fun _ _ => inferInstance) ?_ | with_reducible intro _ | refine goO (by first | omega | (simp only [List.length_cons, List.length_nil]; omega)) ?_ | fail))
      refine loop_w (i + 1) ⟨At.to (.int .i64 ((i : Int) + 1)) (by simp), by omega, by omega, fun j h1 h2 h3 => ?_⟩ (by omega)
      by_cases e : j = i
      · subst e; exact he
      · exact hd j h1 (by omega) h3
  · haveI : BV (decide ((i : Int) < (n : Int))) false := ⟨by simpa using hlt⟩
    (repeat (first | refine go ?_ | refine goR ?_ | refine goS (fun yc hyc => ?_) | refine goL (fun _ _ => inferInstance) ?_ | with_reducible intro _ | refine goO (by first | omega | (simp only [List.length_cons, List.length_nil]; omega)) ?_ | fail))
    rw [dist_sorted (fun j h1 h2 => hd j h1 (by omega) (by omega))] at hK
    exact back1 (σ0 := σ) Try.results47 (fun σ' _ _ => hK σ' inferInstance)⟩
end
end Go.Proofs.Ythdhnkgnbdociaa
