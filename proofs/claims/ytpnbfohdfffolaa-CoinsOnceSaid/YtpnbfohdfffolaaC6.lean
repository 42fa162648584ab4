/- Laws of coins that reach little: shown, CoinsOrder, by contract. No condition. -/
import Derived.Test.YtpnbfohdfffolaaC5
set_option linter.all false
set_option maxHeartbeats 40000000
set_option synthInstance.maxHeartbeats 2000000
set_option synthInstance.maxSize 100000
namespace Go.Proofs.Ytpnbfohdfffolaa
open Go Go.RowKit
theorem pt_eq {a b : Pt} (h1 : a.tx = b.tx) (h2 : a.idx.toNat = b.idx.toNat) : a = b := by
  obtain ⟨t, i⟩ := a
  obtain ⟨t', i'⟩ := b
  simp only at h1 h2
  subst h1
  rw [UInt32.toNat_inj.1 h2]
theorem plt_irrefl (a : Pt) : plt a a = false := by unfold plt; simp
theorem plt_total {a b : Pt} (h : a ≠ b) : plt a b = true ∨ plt b a = true := by
  unfold plt
  by_cases e : a.tx = b.tx
  · rw [if_pos e, if_pos e.symm]
    have : a.idx.toNat ≠ b.idx.toNat := fun h2 => h (pt_eq e h2)
    simp only [decide_eq_true_eq]; omega
  · rw [if_neg e, if_neg (Ne.symm e)]
    exact klt_total e
theorem plt_asymm {a b : Pt} (h : plt a b = true) : plt b a = false := by
  unfold plt at *
  by_cases e : a.tx = b.tx
  · rw [if_pos e] at h; rw [if_pos e.symm]
    simp only [decide_eq_true_eq, decide_eq_false_iff_not] at *; omega
  · rw [if_neg e] at h; rw [if_neg (Ne.symm e)]
    exact klt_asymm h
theorem plt_trans {a b c : Pt} (h : plt a b = true) (g : plt b c = true) : plt a c = true := by
  unfold plt at *
  by_cases e : a.tx = b.tx
  · rw [if_pos e] at h
    by_cases e2 : b.tx = c.tx
    · rw [if_pos e2] at g; rw [if_pos (e.trans e2)]
      simp only [decide_eq_true_eq] at *; omega
    · rw [if_neg e2] at g; rw [if_neg (fun x => e2 (e.symm.trans x)), e]; exact g
  · rw [if_neg e] at h
    by_cases e2 : b.tx = c.tx
    · rw [if_pos e2] at g; rw [if_neg (fun x => e (x.trans e2.symm)), ← e2]; exact h
    · rw [if_neg e2] at g
      have := klt_trans h g
      rw [if_neg (fun x => ?_)]
      · exact this
      · rw [x] at h; rw [klt_asymm h] at g; cases g
def shown09c : Cn := ⟨⟨setB key0 0 (UInt8.ofNat 1), UInt32.ofNat 0⟩, ⟨Int64.ofInt 5, key0⟩, UInt32.ofNat 3, false⟩
section
variable {σ : St}
instance rule_shown09 : CallRule Try.prog 10 [] σ (fun K _ => ∀ σ', Nx σ σ' .no → K (.bool true) σ') := ⟨fun K E hK => by
  haveI : ∀ A, Is (applyR [] ⟨UInt32.ofNat 0, ⟨none, 0, 0, []⟩, ⟨A, 1, 1, [⟨Int64.ofInt ((5 : Nat) : Int), key0⟩]⟩, key0, ⟨none, 0, 0, []⟩, ⟨none, 0, 0, []⟩, Int64.ofInt ((0 : Nat) : Int)⟩ (setB key0 0 (UInt8.ofNat 1)) (UInt32.ofNat 3)) ([shown09c], [], 0) := fun A => ⟨by kernel_rfl⟩
  haveI : ∀ A, Is (applyR [shown09c] ⟨UInt32.ofNat 0, ⟨A, 1, 1, [⟨setB key0 0 (UInt8.ofNat 1), UInt32.ofNat 0⟩]⟩, ⟨none, 0, 0, []⟩, key0, ⟨none, 0, 0, []⟩, ⟨none, 0, 0, []⟩, Int64.ofInt ((0 : Nat) : Int)⟩ (setB key0 0 (UInt8.ofNat 2)) (UInt32.ofNat 4)) ([], [shown09c], 0) := fun A => ⟨by kernel_rfl⟩
  haveI : BV (decide (([shown09c] : List Cn)[0]!.out.val.toInt = 5)) true := ⟨by decide +kernel⟩
  haveI : BV (decide ((([] : List Cn).length : Int) = 0)) true := ⟨by simp⟩
  haveI : BV (decide ((([shown09c] : List Cn).length : Int) = 1)) true := ⟨by simp⟩
  refine calls_enter Try.func10 rfl _ Try.ntmps10 rfl ?_
  (repeat (first | refine go ?_ | refine goR ?_ | refine goS (fun yc hyc => ?_) | refine goL (fun _ _ => inferInstance) ?_ | with_reducible intro _ | refine goO (by first | omega | (simp only [List.length_cons, List.length_nil]; omega)) ?_ | fail))
  exact backN (σ0 := σ) Try.results10 (fun σ' _ _ => hK σ' inferInstance)⟩
theorem pt_cases (a b : Pt) : (plt a b = true ∧ plt b a = false ∧ a ≠ b) ∨ (plt a b = false ∧ plt b a = true ∧ a ≠ b) ∨ (plt a b = false ∧ plt b a = false ∧ a = b) := by
  by_cases e : a = b
  · subst e; exact .inr (.inr ⟨plt_irrefl a, plt_irrefl a, rfl⟩)
  · rcases plt_total e with h | h
    · exact .inl ⟨h, plt_asymm h, e⟩
    · exact .inr (.inl ⟨plt_asymm h, h, e⟩)
instance rule_CoinsOrder {a b c : Pt} : CallRule Try.prog 4 [.agg (cats [kc a.tx, #[.int .u32 (a.idx.toNat : Int)]]), .agg (cats [kc b.tx, #[.int .u32 (b.idx.toNat : Int)]]), .agg (cats [kc c.tx, #[.int .u32 (c.idx.toNat : Int)]])] σ (fun K _ => ∀ σ', Nx σ σ' .no → K (.bool true) σ') := ⟨fun K E hK => by
  rcases pt_cases a b with ⟨h1, h2, h3⟩ | ⟨h1, h2, h3⟩ | ⟨h1, h2, h3⟩
  · haveI : BV (plt a b) true := ⟨h1⟩
    haveI : BV (plt b a) false := ⟨h2⟩
    haveI : BV (decide (a = b)) false := ⟨by simpa using h3⟩
    by_cases ht : a.tx = b.tx
    · haveI : BV (decide (a.tx = b.tx)) true := ⟨by simpa using ht⟩
      haveI : BV (decide ((a.idx.toNat : Int) < (b.idx.toNat : Int))) true := ⟨by have := h1; unfold plt at this; rw [if_pos ht] at this; exact this⟩
      by_cases h4 : plt b c = true
      · haveI : BV (plt b c) true := ⟨h4⟩
        haveI : BV (plt a c) true := ⟨plt_trans h1 h4⟩
        refine calls_enter Try.func4 rfl _ Try.ntmps4 rfl ?_
        (repeat (first | refine go ?_ | refine goR ?_ | refine goS (fun yc hyc => ?_) | refine goL (fun _ _ => inferInstance) ?_ | with_reducible intro _ | refine goO (by first | omega | (simp only [List.length_cons, List.length_nil]; omega)) ?_ | fail))
        exact backN (σ0 := σ) Try.results4 (fun σ' _ _ => hK σ' inferInstance)
      · haveI : BV (plt b c) false := ⟨by simpa using h4⟩
        refine calls_enter Try.func4 rfl _ Try.ntmps4 rfl ?_
        (repeat (first | refine go ?_ | refine goR ?_ | refine goS (fun yc hyc => ?_) | refine goL (fun _ _ => inferInstance) ?_ | with_reducible intro _ | refine goO (by first | omega | (simp only [List.length_cons, List.length_nil]; omega)) ?_ | fail))
        exact backN (σ0 := σ) Try.results4 (fun σ' _ _ => hK σ' inferInstance)
    · haveI : BV (decide (a.tx = b.tx)) false := ⟨by simpa using ht⟩
      by_cases h4 : plt b c = true
      · haveI : BV (plt b c) true := ⟨h4⟩
        haveI : BV (plt a c) true := ⟨plt_trans h1 h4⟩
        refine calls_enter Try.func4 rfl _ Try.ntmps4 rfl ?_
        (repeat (first | refine go ?_ | refine goR ?_ | refine goS (fun yc hyc => ?_) | refine goL (fun _ _ => inferInstance) ?_ | with_reducible intro _ | refine goO (by first | omega | (simp only [List.length_cons, List.length_nil]; omega)) ?_ | fail))
        exact backN (σ0 := σ) Try.results4 (fun σ' _ _ => hK σ' inferInstance)
      · haveI : BV (plt b c) false := ⟨by simpa using h4⟩
        refine calls_enter Try.func4 rfl _ Try.ntmps4 rfl ?_
        (repeat (first | refine go ?_ | refine goR ?_ | refine goS (fun yc hyc => ?_) | refine goL (fun _ _ => inferInstance) ?_ | with_reducible intro _ | refine goO (by first | omega | (simp only [List.length_cons, List.length_nil]; omega)) ?_ | fail))
        exact backN (σ0 := σ) Try.results4 (fun σ' _ _ => hK σ' inferInstance)
  · haveI : BV (plt a b) false := ⟨h1⟩
    haveI : BV (plt b a) true := ⟨h2⟩
    haveI : BV (decide (a = b)) false := ⟨by simpa using h3⟩
    by_cases ht : a.tx = b.tx
    · haveI : BV (decide (a.tx = b.tx)) true := ⟨by simpa using ht⟩
      haveI : BV (decide ((a.idx.toNat : Int) < (b.idx.toNat : Int))) false := ⟨by have := h1; unfold plt at this; rw [if_pos ht] at this; exact this⟩
      refine calls_enter Try.func4 rfl _ Try.ntmps4 rfl ?_
      (repeat (first | refine go ?_ | refine goR ?_ | refine goS (fun yc hyc => ?_) | refine goL (fun _ _ => inferInstance) ?_ | with_reducible intro _ | refine goO (by first | omega | (simp only [List.length_cons, List.length_nil]; omega)) ?_ | fail))
      exact backN (σ0 := σ) Try.results4 (fun σ' _ _ => hK σ' inferInstance)
    · haveI : BV (decide (a.tx = b.tx)) false := ⟨by simpa using ht⟩
      refine calls_enter Try.func4 rfl _ Try.ntmps4 rfl ?_
      (repeat (first | refine go ?_ | refine goR ?_ | refine goS (fun yc hyc => ?_) | refine goL (fun _ _ => inferInstance) ?_ | with_reducible intro _ | refine goO (by first | omega | (simp only [List.length_cons, List.length_nil]; omega)) ?_ | fail))
      exact backN (σ0 := σ) Try.results4 (fun σ' _ _ => hK σ' inferInstance)
  · haveI : BV (plt a b) false := ⟨h1⟩
    haveI : BV (plt b a) false := ⟨h2⟩
    haveI : BV (decide (a = b)) true := ⟨by simpa using h3⟩
    by_cases ht : a.tx = b.tx
    · haveI : BV (decide (a.tx = b.tx)) true := ⟨by simpa using ht⟩
      haveI : BV (decide ((a.idx.toNat : Int) < (b.idx.toNat : Int))) false := ⟨by have := h1; unfold plt at this; rw [if_pos ht] at this; exact this⟩
      refine calls_enter Try.func4 rfl _ Try.ntmps4 rfl ?_
      (repeat (first | refine go ?_ | refine goR ?_ | refine goS (fun yc hyc => ?_) | refine goL (fun _ _ => inferInstance) ?_ | with_reducible intro _ | refine goO (by first | omega | (simp only [List.length_cons, List.length_nil]; omega)) ?_ | fail))
      exact backN (σ0 := σ) Try.results4 (fun σ' _ _ => hK σ' inferInstance)
    · haveI : BV (decide (a.tx = b.tx)) false := ⟨by simpa using ht⟩
      refine calls_enter Try.func4 rfl _ Try.ntmps4 rfl ?_
      (repeat (first | refine go ?_ | refine goR ?_ | refine goS (fun yc hyc => ?_) | refine goL (fun _ _ => inferInstance) ?_ | with_reducible intro _ | refine goO (by first | omega | (simp only [List.length_cons, List.length_nil]; omega)) ?_ | fail))
      exact backN (σ0 := σ) Try.results4 (fun σ' _ _ => hK σ' inferInstance)⟩
end
end Go.Proofs.Ytpnbfohdfffolaa
