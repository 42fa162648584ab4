/- The laws of nulls, by contract. No condition. -/
import Derived.Test.YtlcpjfeomlegpaaN2
set_option linter.all false
set_option maxHeartbeats 40000000
set_option synthInstance.maxHeartbeats 2000000
set_option synthInstance.maxSize 100000
namespace Go.Proofs.Ytlcpjfeomlegpaa
open Go Go.RowKit
def one1 : Key := setB key0 0 (UInt8.ofNat 1)
section
variable {σ : St} {A B : Option Addr} {n c m d : Nat} {xs ys : List Key} {k : Key}
instance bi1 : BV (decide ((161 : Int) = 0)) false := ⟨by decide⟩
instance bi2 : BV (decide ((3 : Int) = 0)) false := ⟨by decide⟩
instance rule_shown10 : CallRule Try.prog 7 [] σ (fun K _ => ∀ σ', Nx σ σ' .no → K (.bool true) σ') := ⟨fun K E hK => by
  haveI : Is (spendM [] [one1]) (some [one1]) := ⟨by decide +kernel⟩
  haveI : Is (spendM [one1] [one1]) none := ⟨by decide +kernel⟩
  unfold one1 at *
  refine calls_enter Try.func7 rfl _ Try.ntmps7 rfl ?_
  (repeat (first | refine go ?_ | refine goR ?_ | refine goS (fun yc hyc => ?_) | refine goL (fun _ _ => inferInstance) ?_ | with_reducible intro _ | refine goO (by first | omega | (simp only [List.length_cons, List.length_nil]; omega)) ?_ | fail))
  exact backN (σ0 := σ) Try.results7 (fun σ' _ _ => hK σ' inferInstance)⟩
instance rule_NullsTells [h : SL σ A n c keyE xs] [g : SL σ B m d keyE ys] : CallRule Try.prog 3 [.slice A n c, .slice B m d] σ (fun K _ => ∀ σ', Nx σ σ' .no → K (.bool true) σ') := ⟨fun K E hK => by
  by_cases hn : 200 < n
  · haveI : BV (decide ((200 : Int) < (n : Int))) true := ⟨by simp; omega⟩
    refine calls_enter Try.func3 rfl _ Try.ntmps3 rfl ?_
    (repeat (first | refine go ?_ | refine goR ?_ | refine goS (fun yc hyc => ?_) | refine goL (fun _ _ => inferInstance) ?_ | with_reducible intro _ | refine goO (by first | omega | (simp only [List.length_cons, List.length_nil]; omega)) ?_ | fail))
    exact backN (σ0 := σ) Try.results3 (fun σ' _ _ => hK σ' inferInstance)
  haveI : BV (decide ((200 : Int) < (n : Int))) false := ⟨by simp; omega⟩
  by_cases hm : 200 < m
  · haveI : BV (decide ((200 : Int) < (m : Int))) true := ⟨by simp; omega⟩
    refine calls_enter Try.func3 rfl _ Try.ntmps3 rfl ?_
    (repeat (first | refine go ?_ | refine goR ?_ | refine goS (fun yc hyc => ?_) | refine goL (fun _ _ => inferInstance) ?_ | with_reducible intro _ | refine goO (by first | omega | (simp only [List.length_cons, List.length_nil]; omega)) ?_ | fail))
    exact backN (σ0 := σ) Try.results3 (fun σ' _ _ => hK σ' inferInstance)
  haveI : BV (decide ((200 : Int) < (m : Int))) false := ⟨by simp; omega⟩
  refine calls_enter Try.func3 rfl _ Try.ntmps3 rfl ?_
  (repeat (first | refine go ?_ | refine goR ?_ | refine goS (fun yc hyc => ?_) | refine goL (fun _ _ => inferInstance) ?_ | with_reducible intro _ | refine goO (by first | omega | (simp only [List.length_cons, List.length_nil]; omega)) ?_ | fail))
  exact backN (σ0 := σ) Try.results3 (fun σ' _ _ => hK σ' inferInstance)⟩
end
end Go.Proofs.Ytlcpjfeomlegpaa
