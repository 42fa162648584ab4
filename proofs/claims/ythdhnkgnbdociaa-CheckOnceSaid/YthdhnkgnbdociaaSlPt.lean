/- The library's functions on slices, at thurible/api.Point, by contract. No condition. -/
import Derived.Test.YthdhnkgnbdociaaRn
import Derived.Test.YthdhnkgnbdociaaEc
set_option linter.all false
set_option maxHeartbeats 40000000
set_option synthInstance.maxHeartbeats 2000000
set_option synthInstance.maxSize 100000
namespace Go.Proofs.Ythdhnkgnbdociaa
open Go Go.RowKit
section
variable {σ : St} {A B : Option Addr} {n c m d : Nat} {xs ys : List Pt}
instance rule_Index_pt {k : Pt} {kv : Value} [h : RdN σ A n c ptE xs] [ek : EncV σ ptE kv k] {o : Option Nat} {v : Int} [q : Is (xs.findIdx? fun x => decide (x = k)) o] [q2 : OptI o v] :
    CallRule Try.prog 56 [.slice A n c, kv] σ (fun K _ => ∀ σ', Nx σ σ' .no → K (.int .i64 v) σ') := ⟨fun K E hK => by
  have hq := q.eq; subst hq
  have hq := q2.eq; subst hq
  have hv := ek.eq
  subst hv
  have hrd := (inferInstance : Rd σ A n c ptE xs)
  have hl := hrd.len
  have hm := hrd.max
  refine calls_enter Try.func56 rfl _ Try.ntmps56 rfl ?_
  (repeat (first | refine go ?_ | refine goR ?_ | refine goS (fun yc hyc => ?_) | refine goL (fun _ _ => inferInstance) ?_ | with_reducible intro _ | refine goO (by first | omega | (simp only [List.length_cons, List.length_nil]; omega)) ?_ | fail))
  refine WC.loopW 524080 .no (fun (i : Nat) f s => At f 8 (.int .i64 (i : Int)) ∧ i ≤ n ∧ ∀ x ∈ xs.take i, decide (x = k) = false) (fun i => n - i) 0 ⟨At.to (.int .i64 0) rfl, Nat.zero_le _, by simp⟩ ?_
  rintro i f s ha hs ⟨a8, hi, hf⟩
  by_cases hlt : i < n
  · haveI : BV (decide ((i : Int) < (n : Int))) true := ⟨by simpa using hlt⟩
    haveI : IdxLt i n := ⟨hlt⟩
    haveI : Fits .i64 ((i : Int) + 1) := Fits.i64 (by omega) (by omega)
    by_cases hc : k = xs[i]!
    · haveI : BV (decide (k = xs[i]!)) true := ⟨by simpa using hc⟩
      (repeat (first | refine go ?_ | refine goR ?_ | refine goS (fun yc hyc => ?_) | refine goL (fun _ _ => inferInstance) ?_ | with_reducible intro _ | refine goO (by first | omega | (simp only [List.length_cons, List.length_nil]; omega)) ?_ | fail))
      refine WC.draw [] (.l 0 (.p 1 (.p 2 (.l 3 (.l 4 (.p 5 .nil)))))) mixed (by decide +kernel) ?_
      (repeat (first | refine go ?_ | refine goR ?_ | refine goS (fun yc hyc => ?_) | refine goL (fun _ _ => inferInstance) ?_ | with_reducible intro _ | refine goO (by first | omega | (simp only [List.length_cons, List.length_nil]; omega)) ?_ | fail))
      rw [findIdx_at (by omega) hf (by simp [hc])] at hK
      exact back1 (σ0 := σ) Try.results56 (fun σ' _ _ => hK σ' inferInstance)
    · haveI : BV (decide (k = xs[i]!)) false := ⟨by simpa using hc⟩
      (repeat (first | refine go ?_ | refine goR ?_ | refine goS (fun yc hyc => ?_) | refine goL (fun _ _ => inferInstance) ?_ | with_reducible intro _ | refine goO (by first | omega | (simp only [List.length_cons, List.length_nil]; omega)) ?_ | fail))
      refine WC.draw [] (.l 0 (.p 1 (.p 2 (.l 3 (.l 4 (.p 5 .nil)))))) mixed (by decide +kernel) ?_
      (repeat (first | refine go ?_ | refine goR ?_ | refine goS (fun yc hyc => ?_) | refine goL (fun _ _ => inferInstance) ?_ | with_reducible intro _ | refine goO (by first | omega | (simp only [List.length_cons, List.length_nil]; omega)) ?_ | fail))
      refine loop_w (i + 1) ⟨At.to (.int .i64 ((i : Int) + 1)) (by simp), hlt, all_take_succ (by omega) hf (by simpa using Ne.symm hc)⟩ (by omega)
  · haveI : BV (decide ((i : Int) < (n : Int))) false := ⟨by simpa using hlt⟩
    (repeat (first | refine go ?_ | refine goR ?_ | refine goS (fun yc hyc => ?_) | refine goL (fun _ _ => inferInstance) ?_ | with_reducible intro _ | refine goO (by first | omega | (simp only [List.length_cons, List.length_nil]; omega)) ?_ | fail))
    rw [take_all (by omega)] at hf
    rw [findIdx_none hf] at hK
    exact back1 (σ0 := σ) Try.results56 (fun σ' _ _ => hK σ' inferInstance)⟩
instance rule_IndexFunc_pt {fv : Value} {p : Pt → Bool} [h : RdN σ A n c ptE xs] [pf : PredF Try.prog σ .no fv ptE p] {o : Option Nat} {v : Int} [q : Is (xs.findIdx? p) o] [q2 : OptI o v] :
    CallRule Try.prog 55 [.slice A n c, fv] σ (fun K _ => ∀ σ', Nx σ σ' .no → K (.int .i64 v) σ') := ⟨fun K E hK => by
  have hq := q.eq; subst hq
  have hq := q2.eq; subst hq
  have hrd := (inferInstance : Rd σ A n c ptE xs)
  have hl := hrd.len
  have hm := hrd.max
  refine calls_enter Try.func55 rfl _ Try.ntmps55 rfl ?_
  (repeat (first | refine go ?_ | refine goR ?_ | refine goS (fun yc hyc => ?_) | refine goL (fun _ _ => inferInstance) ?_ | with_reducible intro _ | refine goO (by first | omega | (simp only [List.length_cons, List.length_nil]; omega)) ?_ | fail))
  refine WC.loopW 524080 .no (fun (i : Nat) f s => At f 8 (.int .i64 (i : Int)) ∧ i ≤ n ∧ ∀ x ∈ xs.take i, p x = false) (fun i => n - i) 0 ⟨At.to (.int .i64 0) rfl, Nat.zero_le _, by simp⟩ ?_
  rintro i f s ha hs ⟨a8, hi, hf⟩
  by_cases hlt : i < n
  · haveI : BV (decide ((i : Int) < (n : Int))) true := ⟨by simpa using hlt⟩
    haveI : IdxLt i n := ⟨hlt⟩
    haveI : Fits .i64 ((i : Int) + 1) := Fits.i64 (by omega) (by omega)
    haveI : OkE s ptE xs[i]! := (inferInstance : Rd s A n c ptE xs).okAt hlt
    haveI := pf.rule s xs[i]! (Sx.nx inferInstance) inferInstance
    by_cases hc : p xs[i]! = true
    · rw [hc] at this
      (repeat (first | refine go ?_ | refine goR ?_ | refine goS (fun yc hyc => ?_) | refine goL (fun _ _ => inferInstance) ?_ | with_reducible intro _ | refine goO (by first | omega | (simp only [List.length_cons, List.length_nil]; omega)) ?_ | fail))
      rw [findIdx_at (by omega) hf hc] at hK
      exact back1 (σ0 := σ) Try.results55 (fun σ' _ _ => hK σ' inferInstance)
    · simp only [Bool.not_eq_true] at hc
      rw [hc] at this
      (repeat (first | refine go ?_ | refine goR ?_ | refine goS (fun yc hyc => ?_) | refine goL (fun _ _ => inferInstance) ?_ | with_reducible intro _ | refine goO (by first | omega | (simp only [List.length_cons, List.length_nil]; omega)) ?_ | fail))
      refine loop_w (i + 1) ⟨At.to (.int .i64 ((i : Int) + 1)) (by simp), hlt, all_take_succ (by omega) hf hc⟩ (by omega)
  · haveI : BV (decide ((i : Int) < (n : Int))) false := ⟨by simpa using hlt⟩
    (repeat (first | refine go ?_ | refine goR ?_ | refine goS (fun yc hyc => ?_) | refine goL (fun _ _ => inferInstance) ?_ | with_reducible intro _ | refine goO (by first | omega | (simp only [List.length_cons, List.length_nil]; omega)) ?_ | fail))
    rw [take_all (by omega)] at hf
    rw [findIdx_none hf] at hK
    exact back1 (σ0 := σ) Try.results55 (fun σ' _ _ => hK σ' inferInstance)⟩
instance rule_Contains_pt {k : Pt} {kv : Value} [h : RdN σ A n c ptE xs] [ek : EncV σ ptE kv k] {bb : Bool} [q : BV (xs.any fun x => decide (x = k)) bb] :
    CallRule Try.prog 28 [.slice A n c, kv] σ (fun K _ => ∀ σ', Nx σ σ' .no → K (.bool bb) σ') := ⟨fun K E hK => by
  have hq := q.eq; subst hq
  have hv := ek.eq
  subst hv
  haveI : OkE σ ptE k := ⟨ek.ok⟩
  rw [← List.findIdx?_isSome] at hK
  cases ho : xs.findIdx? (fun x => decide (x = k)) with
  | none =>
    haveI : Is (xs.findIdx? fun x => decide (x = k)) none := ⟨ho⟩
    haveI : BV (decide ((-1 : Int) ≥ 0)) false := ⟨rfl⟩
    haveI : BV (decide (0 ≤ (-1 : Int))) false := ⟨rfl⟩
    rw [ho] at hK
    refine calls_enter Try.func28 rfl _ Try.ntmps28 rfl ?_
    (repeat (first | refine go ?_ | refine goR ?_ | refine goS (fun yc hyc => ?_) | refine goL (fun _ _ => inferInstance) ?_ | with_reducible intro _ | refine goO (by first | omega | (simp only [List.length_cons, List.length_nil]; omega)) ?_ | fail))
    exact backN (σ0 := σ) Try.results28 (fun σ' _ _ => hK σ' inferInstance)
  | some i =>
    haveI : Is (xs.findIdx? fun x => decide (x = k)) (some i) := ⟨ho⟩
    haveI : BV (decide ((i : Int) ≥ 0)) true := ⟨by simp⟩
    haveI : BV (decide (0 ≤ (i : Int))) true := ⟨by simp⟩
    rw [ho] at hK
    refine calls_enter Try.func28 rfl _ Try.ntmps28 rfl ?_
    (repeat (first | refine go ?_ | refine goR ?_ | refine goS (fun yc hyc => ?_) | refine goL (fun _ _ => inferInstance) ?_ | with_reducible intro _ | refine goO (by first | omega | (simp only [List.length_cons, List.length_nil]; omega)) ?_ | fail))
    exact backN (σ0 := σ) Try.results28 (fun σ' _ _ => hK σ' inferInstance)⟩
instance rule_ContainsFunc_pt {fv : Value} {p : Pt → Bool} [h : RdN σ A n c ptE xs] [pf : PredF Try.prog σ .no fv ptE p] {bb : Bool} [q : BV (xs.any p) bb] :
    CallRule Try.prog 26 [.slice A n c, fv] σ (fun K _ => ∀ σ', Nx σ σ' .no → K (.bool bb) σ') := ⟨fun K E hK => by
  have hq := q.eq; subst hq
  rw [← List.findIdx?_isSome] at hK
  cases ho : xs.findIdx? p with
  | none =>
    haveI : Is (xs.findIdx? p) none := ⟨ho⟩
    haveI : BV (decide ((-1 : Int) ≥ 0)) false := ⟨rfl⟩
    haveI : BV (decide (0 ≤ (-1 : Int))) false := ⟨rfl⟩
    rw [ho] at hK
    refine calls_enter Try.func26 rfl _ Try.ntmps26 rfl ?_
    (repeat (first | refine go ?_ | refine goR ?_ | refine goS (fun yc hyc => ?_) | refine goL (fun _ _ => inferInstance) ?_ | with_reducible intro _ | refine goO (by first | omega | (simp only [List.length_cons, List.length_nil]; omega)) ?_ | fail))
    exact backN (σ0 := σ) Try.results26 (fun σ' _ _ => hK σ' inferInstance)
  | some i =>
    haveI : Is (xs.findIdx? p) (some i) := ⟨ho⟩
    haveI : BV (decide ((i : Int) ≥ 0)) true := ⟨by simp⟩
    haveI : BV (decide (0 ≤ (i : Int))) true := ⟨by simp⟩
    rw [ho] at hK
    refine calls_enter Try.func26 rfl _ Try.ntmps26 rfl ?_
    (repeat (first | refine go ?_ | refine goR ?_ | refine goS (fun yc hyc => ?_) | refine goL (fun _ _ => inferInstance) ?_ | with_reducible intro _ | refine goO (by first | omega | (simp only [List.length_cons, List.length_nil]; omega)) ?_ | fail))
    exact backN (σ0 := σ) Try.results26 (fun σ' _ _ => hK σ' inferInstance)⟩
end
end Go.Proofs.Ythdhnkgnbdociaa
