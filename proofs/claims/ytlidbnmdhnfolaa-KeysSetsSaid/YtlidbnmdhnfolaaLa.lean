/- Laws of keys that reach little: shown, KeysOrder, KeysFirst, by contract. No condition. -/
import Derived.Test.YtlidbnmdhnfolaaSrb
set_option linter.all false
set_option maxHeartbeats 20000000
set_option synthInstance.maxHeartbeats 2000000
set_option synthInstance.maxSize 100000
namespace Go.Proofs.Ytlidbnmdhnfolaa
open Go Go.RowKit
section
variable {σ : St}
theorem shown_sort : ksort [setB key0 0 (UInt8.ofNat 2), setB key0 0 (UInt8.ofNat 1)] = [setB key0 0 (UInt8.ofNat 1), setB key0 0 (UInt8.ofNat 2)] := by decide +kernel
instance rule_shown04 : CallRule Try.prog 11 [] σ (fun K _ => ∀ σ', Nx σ σ' .no → K (.bool true) σ') := ⟨fun K E hK => by
  refine calls_enter Try.func11 rfl _ Try.ntmps11 rfl ?_
  (repeat (first | refine go ?_ | refine goR ?_ | refine goS (fun yc hyc => ?_) | refine goL (fun _ _ => inferInstance) ?_ | with_reducible intro _ | refine goO (by omega) ?_ | fail))
  rename_i s A1 c1 hn1 hs1
  rw [shown_sort] at hs1
  refine WC.draw [] (.p 0 (.l 1 (.l 2 (.h 3 (.h 4 (.p 5 (.p 6 (.l 7 (.l 8 (.p 9 (.l 10 (.l 11 (.h 12 (.p 13 (.p 14 .nil))))))))))))))) mixed (by decide +kernel) ?_
  haveI : BV (decide ([setB key0 0 (UInt8.ofNat 1), setB key0 0 (UInt8.ofNat 2)] = [setB key0 0 (UInt8.ofNat 1), setB key0 0 (UInt8.ofNat 2)])) true := ⟨by simp⟩
  haveI : BV (klt ([setB key0 0 (UInt8.ofNat 1), setB key0 0 (UInt8.ofNat 2)][0]!) ([setB key0 0 (UInt8.ofNat 1), setB key0 0 (UInt8.ofNat 2)][1]!)) true := ⟨by decide +kernel⟩
  (repeat (first | refine go ?_ | refine goR ?_ | refine goS (fun yc hyc => ?_) | refine goL (fun _ _ => inferInstance) ?_ | with_reducible intro _ | refine goO (by omega) ?_ | fail))
  exact back1 (σ0 := σ) Try.results11 (fun σ' _ _ => hK σ' inferInstance)⟩

theorem key_cases (a b : Key) : (klt a b = true ∧ klt b a = false ∧ a ≠ b) ∨ (klt a b = false ∧ klt b a = true ∧ a ≠ b) ∨ (klt a b = false ∧ klt b a = false ∧ a = b) := by
  by_cases e : a = b
  · subst e; exact .inr (.inr ⟨klt_irrefl a, klt_irrefl a, rfl⟩)
  · rcases klt_total e with h | h
    · exact .inl ⟨h, klt_asymm h, e⟩
    · exact .inr (.inl ⟨klt_asymm h, h, e⟩)

instance rule_KeysOrder {a b c : Key} : CallRule Try.prog 3 [.agg (kc a), .agg (kc b), .agg (kc c)] σ (fun K _ => ∀ σ', Nx σ σ' .no → K (.bool true) σ') := ⟨fun K E hK => by
  haveI : BV (klt a a) false := ⟨klt_irrefl a⟩
  rcases key_cases a b with ⟨h1, h2, h3⟩ | ⟨h1, h2, h3⟩ | ⟨h1, h2, h3⟩
  · haveI : BV (klt a b) true := ⟨h1⟩
    haveI : BV (klt b a) false := ⟨h2⟩
    haveI : BV (decide (a = b)) false := ⟨by simpa using h3⟩
    by_cases h4 : klt b c = true
    · haveI : BV (klt b c) true := ⟨h4⟩
      haveI : BV (klt a c) true := ⟨klt_trans h1 h4⟩
      refine calls_enter Try.func3 rfl _ Try.ntmps3 rfl ?_
      (repeat (first | refine go ?_ | refine goR ?_ | refine goS (fun yc hyc => ?_) | refine goL (fun _ _ => inferInstance) ?_ | with_reducible intro _ | refine goO (by omega) ?_ | fail))
      exact back1 (σ0 := σ) Try.results3 (fun σ' _ _ => hK σ' inferInstance)
    · haveI : BV (klt b c) false := ⟨by simpa using h4⟩
      refine calls_enter Try.func3 rfl _ Try.ntmps3 rfl ?_
      (repeat (first | refine go ?_ | refine goR ?_ | refine goS (fun yc hyc => ?_) | refine goL (fun _ _ => inferInstance) ?_ | with_reducible intro _ | refine goO (by omega) ?_ | fail))
      exact back1 (σ0 := σ) Try.results3 (fun σ' _ _ => hK σ' inferInstance)
  · haveI : BV (klt a b) false := ⟨h1⟩
    haveI : BV (klt b a) true := ⟨h2⟩
    haveI : BV (decide (a = b)) false := ⟨by simpa using h3⟩
    refine calls_enter Try.func3 rfl _ Try.ntmps3 rfl ?_
    (repeat (first | refine go ?_ | refine goR ?_ | refine goS (fun yc hyc => ?_) | refine goL (fun _ _ => inferInstance) ?_ | with_reducible intro _ | refine goO (by omega) ?_ | fail))
    exact back1 (σ0 := σ) Try.results3 (fun σ' _ _ => hK σ' inferInstance)
  · haveI : BV (klt a b) false := ⟨h1⟩
    haveI : BV (klt b a) false := ⟨h2⟩
    haveI : BV (decide (a = b)) true := ⟨by simpa using h3⟩
    refine calls_enter Try.func3 rfl _ Try.ntmps3 rfl ?_
    (repeat (first | refine go ?_ | refine goR ?_ | refine goS (fun yc hyc => ?_) | refine goL (fun _ _ => inferInstance) ?_ | with_reducible intro _ | refine goO (by omega) ?_ | fail))
    exact back1 (σ0 := σ) Try.results3 (fun σ' _ _ => hK σ' inferInstance)⟩

theorem setB_list (a : Key) (x : UInt8) : (setB a 0 x).toList = x :: a.toList.tail := by
  unfold setB
  rw [dif_pos (by omega)]
  obtain ⟨⟨l⟩, hl⟩ := a
  match l, hl with
  | y :: l, _ => rfl
theorem klt_setB {a b : Key} {x y : UInt8} (h : x < y) : klt (setB a 0 x) (setB b 0 y) = true := by
  unfold klt kcmp
  rw [setB_list, setB_list]
  unfold lexc
  rw [if_neg (fun e => by subst e; exact absurd h (UInt8.lt_irrefl _)), if_pos h]
  rfl
theorem klt_setB' {a b : Key} {x y : UInt8} (h : y < x) : klt (setB a 0 x) (setB b 0 y) = false := klt_asymm (klt_setB h)

instance rule_KeysFirst {a b : Key} {x y : UInt8} : CallRule Try.prog 4 [.agg (kc a), .agg (kc b), .int .u8 (x.toNat : Int), .int .u8 (y.toNat : Int)] σ (fun K _ => ∀ σ', Nx σ σ' .no → K (.bool true) σ') := ⟨fun K E hK => by
  by_cases e : x = y
  · subst e
    haveI : BV (decide ((x.toNat : Int) = (x.toNat : Int))) true := ⟨by simp⟩
    rcases key_cases (setB a 0 x) (setB b 0 x) with ⟨h1, h2, h3⟩ | ⟨h1, h2, h3⟩ | ⟨h1, h2, h3⟩
    · haveI : BV (klt (setB a 0 x) (setB b 0 x)) true := ⟨h1⟩
      haveI : BV (klt (setB b 0 x) (setB a 0 x)) false := ⟨h2⟩
      refine calls_enter Try.func4 rfl _ Try.ntmps4 rfl ?_
      (repeat (first | refine go ?_ | refine goR ?_ | refine goS (fun yc hyc => ?_) | refine goL (fun _ _ => inferInstance) ?_ | with_reducible intro _ | refine goO (by omega) ?_ | fail))
      refine WC.draw [] (.p 0 (.p 1 (.p 2 (.p 3 (.l 4 (.l 5 (.p 7 (.p 8 (.p 9 (.h 6 (.p 10 (.p 11 (.p 12 (.p 13 (.p 14 (.p 15 (.p 16 (.l 17 (.l 18 (.l 20 (.l 21 (.h 19 (.h 22 (.p 23 (.p 24 (.p 25 (.l 26 (.l 27 (.p 28 (.p 29 (.p 30 (.p 31 (.h 32 (.p 33 (.p 34 .nil))))))))))))))))))))))))))))))))))) mixed (by decide +kernel) ?_
      (repeat (first | refine go ?_ | refine goR ?_ | refine goS (fun yc hyc => ?_) | refine goL (fun _ _ => inferInstance) ?_ | with_reducible intro _ | refine goO (by omega) ?_ | fail))
      exact back1 (σ0 := σ) Try.results4 (fun σ' _ _ => hK σ' inferInstance)
    · haveI : BV (klt (setB a 0 x) (setB b 0 x)) false := ⟨h1⟩
      haveI : BV (klt (setB b 0 x) (setB a 0 x)) true := ⟨h2⟩
      refine calls_enter Try.func4 rfl _ Try.ntmps4 rfl ?_
      (repeat (first | refine go ?_ | refine goR ?_ | refine goS (fun yc hyc => ?_) | refine goL (fun _ _ => inferInstance) ?_ | with_reducible intro _ | refine goO (by omega) ?_ | fail))
      refine WC.draw [] (.p 0 (.p 1 (.p 2 (.p 3 (.l 4 (.l 5 (.p 7 (.p 8 (.p 9 (.h 6 (.p 10 (.p 11 (.p 12 (.p 13 (.p 14 (.p 15 (.p 16 (.l 17 (.l 18 (.l 20 (.l 21 (.h 19 (.h 22 (.p 23 (.p 24 (.p 25 (.l 26 (.l 27 (.p 28 (.p 29 (.p 30 (.p 31 (.h 32 (.p 33 (.p 34 .nil))))))))))))))))))))))))))))))))))) mixed (by decide +kernel) ?_
      (repeat (first | refine go ?_ | refine goR ?_ | refine goS (fun yc hyc => ?_) | refine goL (fun _ _ => inferInstance) ?_ | with_reducible intro _ | refine goO (by omega) ?_ | fail))
      exact back1 (σ0 := σ) Try.results4 (fun σ' _ _ => hK σ' inferInstance)
    · haveI : BV (klt (setB a 0 x) (setB b 0 x)) false := ⟨h1⟩
      haveI : BV (klt (setB b 0 x) (setB a 0 x)) false := ⟨h2⟩
      haveI : BV (decide (setB a 0 x = setB b 0 x)) true := ⟨by simpa using h3⟩
      refine calls_enter Try.func4 rfl _ Try.ntmps4 rfl ?_
      (repeat (first | refine go ?_ | refine goR ?_ | refine goS (fun yc hyc => ?_) | refine goL (fun _ _ => inferInstance) ?_ | with_reducible intro _ | refine goO (by omega) ?_ | fail))
      refine WC.draw [] (.p 0 (.p 1 (.p 2 (.p 3 (.l 4 (.l 5 (.p 7 (.p 8 (.p 9 (.h 6 (.p 10 (.p 11 (.p 12 (.p 13 (.p 14 (.p 15 (.p 16 (.l 17 (.l 18 (.l 20 (.l 21 (.h 19 (.h 22 (.p 23 (.p 24 (.p 25 (.l 26 (.l 27 (.p 28 (.p 29 (.p 30 (.p 31 (.h 32 (.p 33 (.p 34 .nil))))))))))))))))))))))))))))))))))) mixed (by decide +kernel) ?_
      (repeat (first | refine go ?_ | refine goR ?_ | refine goS (fun yc hyc => ?_) | refine goL (fun _ _ => inferInstance) ?_ | with_reducible intro _ | refine goO (by omega) ?_ | fail))
      exact back1 (σ0 := σ) Try.results4 (fun σ' _ _ => hK σ' inferInstance)
  · have ne : x.toNat ≠ y.toNat := fun h => e (UInt8.toNat_inj.1 h)
    haveI : BV (decide ((x.toNat : Int) = (y.toNat : Int))) false := ⟨by simp; omega⟩
    rcases Nat.lt_or_ge x.toNat y.toNat with hl | hl
    · haveI : BV (decide ((x.toNat : Int) < (y.toNat : Int))) true := ⟨by simp; omega⟩
      haveI : BV (klt (setB a 0 x) (setB b 0 y)) true := ⟨klt_setB (UInt8.lt_iff_toNat_lt.2 hl)⟩
      refine calls_enter Try.func4 rfl _ Try.ntmps4 rfl ?_
      (repeat (first | refine go ?_ | refine goR ?_ | refine goS (fun yc hyc => ?_) | refine goL (fun _ _ => inferInstance) ?_ | with_reducible intro _ | refine goO (by omega) ?_ | fail))
      refine WC.draw [] (.p 0 (.p 1 (.p 2 (.p 3 (.l 4 (.l 5 (.p 7 (.p 8 (.p 9 (.h 6 (.p 10 (.p 11 (.p 12 (.p 13 (.p 14 (.p 15 (.p 16 (.l 17 (.l 18 (.l 20 (.l 21 (.h 19 (.h 22 (.p 23 (.p 24 (.p 25 (.l 26 (.l 27 (.p 28 (.p 29 (.p 30 (.p 31 (.h 32 (.p 33 (.p 34 .nil))))))))))))))))))))))))))))))))))) mixed (by decide +kernel) ?_
      (repeat (first | refine go ?_ | refine goR ?_ | refine goS (fun yc hyc => ?_) | refine goL (fun _ _ => inferInstance) ?_ | with_reducible intro _ | refine goO (by omega) ?_ | fail))
      exact back1 (σ0 := σ) Try.results4 (fun σ' _ _ => hK σ' inferInstance)
    · haveI : BV (decide ((x.toNat : Int) < (y.toNat : Int))) false := ⟨by simp; omega⟩
      haveI : BV (klt (setB a 0 x) (setB b 0 y)) false := ⟨klt_setB' (UInt8.lt_iff_toNat_lt.2 (by omega))⟩
      refine calls_enter Try.func4 rfl _ Try.ntmps4 rfl ?_
      (repeat (first | refine go ?_ | refine goR ?_ | refine goS (fun yc hyc => ?_) | refine goL (fun _ _ => inferInstance) ?_ | with_reducible intro _ | refine goO (by omega) ?_ | fail))
      refine WC.draw [] (.p 0 (.p 1 (.p 2 (.p 3 (.l 4 (.l 5 (.p 7 (.p 8 (.p 9 (.h 6 (.p 10 (.p 11 (.p 12 (.p 13 (.p 14 (.p 15 (.p 16 (.l 17 (.l 18 (.l 20 (.l 21 (.h 19 (.h 22 (.p 23 (.p 24 (.p 25 (.l 26 (.l 27 (.p 28 (.p 29 (.p 30 (.p 31 (.h 32 (.p 33 (.p 34 .nil))))))))))))))))))))))))))))))))))) mixed (by decide +kernel) ?_
      (repeat (first | refine go ?_ | refine goR ?_ | refine goS (fun yc hyc => ?_) | refine goL (fun _ _ => inferInstance) ?_ | with_reducible intro _ | refine goO (by omega) ?_ | fail))
      exact back1 (σ0 := σ) Try.results4 (fun σ' _ _ => hK σ' inferInstance)⟩
end
end Go.Proofs.Ytlidbnmdhnfolaa
