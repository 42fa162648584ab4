/- The reference's order of keys, by contract. No condition. -/
import Derived.Test.YtpnbfohdfffolaaK1
import Derived.Test.YtpnbfohdfffolaaRn
set_option linter.all false
set_option maxHeartbeats 40000000
set_option synthInstance.maxHeartbeats 2000000
set_option synthInstance.maxSize 100000
namespace Go.Proofs.Ytpnbfohdfffolaa
open Go Go.RowKit
theorem lexc_diff : ∀ (a b : List UInt8) (i : Nat), i < a.length → i < b.length → a.take i = b.take i → a[i]! ≠ b[i]! → lexc a b = if a[i]! < b[i]! then -1 else 1
  | [], _, i, h, _, _, _ => by simp at h
  | _ :: _, [], i, _, h, _, _ => by simp at h
  | a :: a', b :: b', 0, _, _, _, hn => by
    simp at hn
    simp [lexc, hn]
  | a :: a', b :: b', i + 1, h1, h2, ht, hn => by
    simp at ht
    unfold lexc
    rw [if_pos ht.1, lexc_diff a' b' i (by simpa using h1) (by simpa using h2) ht.2 (by simpa using hn)]
    simp
section
variable {σ : St}
instance rule_ref_Less {a b : Key} {bb : Bool} [q : BV (klt a b) bb] : CallRule Try.prog 41 [.agg (kc a), .agg (kc b)] σ (fun K _ => ∀ σ', Nx σ σ' .no → K (.bool bb) σ') := ⟨fun K E hK => by
  have hq := q.eq; subst hq
  have la : a.toList.length = 32 := by simp
  have lb : b.toList.length = 32 := by simp
  have ga : ∀ (k : Key) (i : Nat), i < 32 → k.toList[i]! = k[i]! := fun k i hi => by rw [getElem!_pos _ i (by simpa using hi), getElem!_pos k i hi]; simp
  refine calls_enter Try.func41 rfl _ Try.ntmps41 rfl ?_
  (repeat (first | refine go ?_ | refine goR ?_ | refine goS (fun yc hyc => ?_) | refine goL (fun _ _ => inferInstance) ?_ | with_reducible intro _ | refine goO (by first | omega | (simp only [List.length_cons, List.length_nil]; omega)) ?_ | fail))
  refine WC.loopW 16777200 .no (fun (i : Nat) f s => At f 5 (.int .i64 (i : Int)) ∧ i ≤ 32 ∧ a.toList.take i = b.toList.take i) (fun i => 32 - i) 0 ⟨At.to (.int .i64 0) rfl, Nat.zero_le _, rfl⟩ ?_
  rintro i f s ha hs ⟨a5, hi, ht⟩
  by_cases hlt : i < 32
  · haveI : BV (decide ((i : Int) < 32)) true := ⟨by simp; omega⟩
    haveI : IdxLt i 32 := ⟨hlt⟩
    haveI : Fits .i64 ((i : Int) + 1) := Fits.i64 (by omega) (by omega)
    by_cases he : a[i]! = b[i]!
    · haveI : BV (!decide ((a[i]!.toNat : Int) = (b[i]!.toNat : Int))) false := ⟨by simp [he]⟩
      (repeat (first | refine go ?_ | refine goR ?_ | refine goS (fun yc hyc => ?_) | refine goL (fun _ _ => inferInstance) ?_ | with_reducible intro _ | refine goO (by first | omega | (simp only [List.length_cons, List.length_nil]; omega)) ?_ | fail))
      refine WC.draw [] (.p 0 (.l 1 (.l 2 (.p 3 (.l 4 (.l 5 (.p 6 .nil))))))) mixed (by decide +kernel) ?_
      (repeat (first | refine go ?_ | refine goR ?_ | refine goS (fun yc hyc => ?_) | refine goL (fun _ _ => inferInstance) ?_ | with_reducible intro _ | refine goO (by first | omega | (simp only [List.length_cons, List.length_nil]; omega)) ?_ | fail))
      refine loop_w (i + 1) ⟨At.to (.int .i64 ((i : Int) + 1)) (by simp), hlt, ?_⟩ (by omega)
      rw [take_snoc (by omega), take_snoc (by omega), ht, ga a i hlt, ga b i hlt, he]
    · have hne : ¬ a[i]!.toNat = b[i]!.toNat := fun e => he (UInt8.toNat_inj.1 e)
      haveI : BV (!decide ((a[i]!.toNat : Int) = (b[i]!.toNat : Int))) true := ⟨by simp; omega⟩
      (repeat (first | refine go ?_ | refine goR ?_ | refine goS (fun yc hyc => ?_) | refine goL (fun _ _ => inferInstance) ?_ | with_reducible intro _ | refine goO (by first | omega | (simp only [List.length_cons, List.length_nil]; omega)) ?_ | fail))
      refine WC.draw [] (.p 0 (.l 1 (.l 2 (.p 3 (.l 4 (.l 5 (.p 6 .nil))))))) mixed (by decide +kernel) ?_
      (repeat (first | refine go ?_ | refine goR ?_ | refine goS (fun yc hyc => ?_) | refine goL (fun _ _ => inferInstance) ?_ | with_reducible intro _ | refine goO (by first | omega | (simp only [List.length_cons, List.length_nil]; omega)) ?_ | fail))
      refine WC.draw [] (.p 0 (.l 1 (.l 2 (.p 3 (.l 4 (.l 5 (.p 6 (.p 7 .nil)))))))) mixed (by decide +kernel) ?_
      (repeat (first | refine go ?_ | refine goR ?_ | refine goS (fun yc hyc => ?_) | refine goL (fun _ _ => inferInstance) ?_ | with_reducible intro _ | refine goO (by first | omega | (simp only [List.length_cons, List.length_nil]; omega)) ?_ | fail))
      have hd := lexc_diff a.toList b.toList i (by omega) (by omega) ht (by rw [ga a i hlt, ga b i hlt]; exact he)
      have e : klt a b = decide ((a[i]!.toNat : Int) < (b[i]!.toNat : Int)) := by
        unfold klt kcmp
        rw [hd, ga a i hlt, ga b i hlt]
        by_cases hl : a[i]! < b[i]!
        · rw [if_pos hl]
          have := UInt8.lt_iff_toNat_lt.1 hl
          simp; omega
        · rw [if_neg hl]
          have : ¬ a[i]!.toNat < b[i]!.toNat := fun e => hl (UInt8.lt_iff_toNat_lt.2 e)
          simp; omega
      rw [e] at hK
      exact back1 (σ0 := σ) Try.results41 (fun σ' _ _ => hK σ' inferInstance)
  · haveI : BV (decide ((i : Int) < 32)) false := ⟨by simp; omega⟩
    (repeat (first | refine go ?_ | refine goR ?_ | refine goS (fun yc hyc => ?_) | refine goL (fun _ _ => inferInstance) ?_ | with_reducible intro _ | refine goO (by first | omega | (simp only [List.length_cons, List.length_nil]; omega)) ?_ | fail))
    rw [take_all (n := i) (by omega), take_all (n := i) (by omega)] at ht
    have : a = b := Vector.toList_inj.1 ht
    rw [this, klt_irrefl] at hK
    exact back1 (σ0 := σ) Try.results41 (fun σ' _ _ => hK σ' inferInstance)⟩
end
end Go.Proofs.Ytpnbfohdfffolaa
