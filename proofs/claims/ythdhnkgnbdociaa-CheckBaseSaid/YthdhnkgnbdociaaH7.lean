/- The law CheckBase, by contract. No condition. -/
import Derived.Test.YthdhnkgnbdociaaH5
set_option linter.all false
set_option maxHeartbeats 40000000
set_option synthInstance.maxHeartbeats 2000000
set_option synthInstance.maxSize 100000
namespace Go.Proofs.Ythdhnkgnbdociaa
open Go Go.RowKit
theorem sumM_small {xs : List Int64} (h : ∀ x ∈ xs, 0 ≤ x.toInt ∧ x.toInt ≤ 4294967295) (hl : xs.length ≤ 1000) : ∃ s, sumM xs = some s := by
  have key : ∀ i, i ≤ xs.length → ∃ s, sumM (xs.take i) = some s ∧ 0 ≤ s ∧ s ≤ 4294967295 * (i : Int) := by
    intro i
    induction i with
    | zero => intro _; exact ⟨0, by rw [List.take_zero]; rfl, by omega, by omega⟩
    | succ i ih =>
      intro hi
      obtain ⟨s, h1, h2, h3⟩ := ih (by omega)
      have hx := h xs[i]! (by rw [getElem!_pos _ i (by omega)]; exact List.getElem_mem _)
      refine ⟨s + xs[i]!.toInt, ?_, by omega, by omega⟩
      rw [sumM_take (by omega), h1]
      have m1 : mayB xs[i]!.toInt = true := mayB_iff.2 (by omega)
      have m2 : mayB (s + xs[i]!.toInt) = true := mayB_iff.2 (by omega)
      simp only [addM, Option.bind_some, m1, m2, Bool.and_self, if_true]
  obtain ⟨s, h1, _⟩ := key xs.length (Nat.le_refl _)
  rw [List.take_of_length_le (Nat.le_refl _)] at h1
  exact ⟨s, h1⟩
/-- what a coinbase's outs are -/
def baseO (xs : List UInt32) (k : Key) : List Ot := xs.map fun x => ⟨Int64.ofInt (x.toNat : Int), k⟩
theorem base_chk0 {e0 : UInt32} {b0 : Int64} (hb : b0.toInt = 0) {A1 A2 : Option Addr} {c1 c2 n : Nat} {ix : UInt32} {k : Key} {xs : List UInt32} (hx : xs.length = n) (hn : n ≤ 30) (base : Bool) :
    chkM ⟨e0, ⟨A1, 1, c1, [⟨key0, ix⟩]⟩, ⟨A2, n, c2, baseO xs k⟩, key0, ⟨none, 0, 0, []⟩, ⟨none, 0, 0, []⟩, b0⟩ base = if n = 0 then 110 else if base then 0 else 112 := by
  have h1 : encE ⟨e0, ⟨A1, 1, c1, [⟨key0, ix⟩]⟩, ⟨A2, n, c2, baseO xs k⟩, key0, ⟨none, 0, 0, []⟩, ⟨none, 0, 0, []⟩, b0⟩ = 0 := encE_ok (by rw [maxL4]; show ¬ 40 < max (max (max 1 n) 0) 0; omega) (fun h => h.2 rfl)
  have h2 : emptyB ⟨e0, ⟨A1, 1, c1, [⟨key0, ix⟩]⟩, ⟨A2, n, c2, baseO xs k⟩, key0, ⟨none, 0, 0, []⟩, ⟨none, 0, 0, []⟩, b0⟩ = decide (n = 0) := by simp [emptyB]
  have hc : cbM ⟨e0, ⟨A1, 1, c1, [⟨key0, ix⟩]⟩, ⟨A2, n, c2, baseO xs k⟩, key0, ⟨none, 0, 0, []⟩, ⟨none, 0, 0, []⟩, b0⟩ = true := by simp [cbM]
  have h3 : coinB ⟨e0, ⟨A1, 1, c1, [⟨key0, ix⟩]⟩, ⟨A2, n, c2, baseO xs k⟩, key0, ⟨none, 0, 0, []⟩, ⟨none, 0, 0, []⟩, b0⟩ base = !base := by
    cases base with
    | true => unfold coinB; rw [hc]; simp
    | false => exact cbM_zero hc
  have h4 : repB ⟨e0, ⟨A1, 1, c1, [⟨key0, ix⟩]⟩, ⟨A2, n, c2, baseO xs k⟩, key0, ⟨none, 0, 0, []⟩, ⟨none, 0, 0, []⟩, b0⟩ = false := by simp [repB, ptD, distK]
  have h5 : moneyB ⟨e0, ⟨A1, 1, c1, [⟨key0, ix⟩]⟩, ⟨A2, n, c2, baseO xs k⟩, key0, ⟨none, 0, 0, []⟩, ⟨none, 0, 0, []⟩, b0⟩ = false := by
    obtain ⟨s, hs⟩ := sumM_small (xs := xs.map fun x => Int64.ofInt (x.toNat : Int)) (by
      intro y hy
      obtain ⟨x, _, rfl⟩ := List.mem_map.1 hy
      have := x.toNat_lt
      rw [Int64.toInt_ofInt_of_le (by omega) (by omega)]; omega) (by simp; omega)
    have e : valsM ⟨e0, ⟨A1, 1, c1, [⟨key0, ix⟩]⟩, ⟨A2, n, c2, baseO xs k⟩, key0, ⟨none, 0, 0, []⟩, ⟨none, 0, 0, []⟩, b0⟩ = xs.map fun x => Int64.ofInt (x.toNat : Int) := by
      simp [valsM, baseO, List.map_map, Function.comp_def]
    unfold moneyB
    rw [e, hs]
    simp [hb]
  simp only [chkM, h1, if_true, errsM, h2, h3, h4, h5]
  cases base <;> simp
theorem base_chk1 {e0 : UInt32} {b0 : Int64} {A1 A2 A3 A4 : Option Addr} {c1 c2 c3 c4 n : Nat} {ix : UInt32} {l2 : List Ot} {l3 l4 : List Key} (hn : n ≤ 30) :
    chkM ⟨e0, ⟨A1, 1, c1, [⟨key0, ix⟩]⟩, ⟨A2, n, c2, l2⟩, key0, ⟨A3, 1, c3, l3⟩, ⟨A4, 1, c4, l4⟩, b0⟩ true = 112 := by
  have h1 : encE ⟨e0, ⟨A1, 1, c1, [⟨key0, ix⟩]⟩, ⟨A2, n, c2, l2⟩, key0, ⟨A3, 1, c3, l3⟩, ⟨A4, 1, c4, l4⟩, b0⟩ = 0 := encE_ok (by rw [maxL4]; show ¬ 40 < max (max (max 1 n) 1) 1; omega) (fun h => h.2 rfl)
  have h2 : emptyB ⟨e0, ⟨A1, 1, c1, [⟨key0, ix⟩]⟩, ⟨A2, n, c2, l2⟩, key0, ⟨A3, 1, c3, l3⟩, ⟨A4, 1, c4, l4⟩, b0⟩ = false := by simp [emptyB]
  have h3 : coinB ⟨e0, ⟨A1, 1, c1, [⟨key0, ix⟩]⟩, ⟨A2, n, c2, l2⟩, key0, ⟨A3, 1, c3, l3⟩, ⟨A4, 1, c4, l4⟩, b0⟩ true = true := by simp [coinB]
  simp only [chkM, h1, if_true, errsM, h2, h3]
  simp
class Z64 (b : Int64) : Prop where
  eq : b.toInt = 0
instance Z64.lit : Z64 (Int64.ofInt 0) := ⟨rfl⟩
instance (priority := low) Z64.nat {n : Int} {m : Nat} [q : ToNat n m] [e : EqB (Nat.beq m 0) true] : Z64 (Int64.ofInt n) := ⟨by
  have h1 := q.eq
  have h2 := Nat.eq_of_beq_eq_true e.eq
  subst h2; subst h1; rfl⟩
instance Z64.zero : Z64 0 := ⟨rfl⟩
section
variable {σ : St} {A : Option Addr} {n c : Nat} {xs : List UInt32} {ix : UInt32} {k : Key} {sec : Bool}
instance rule_CheckBase [h : SL σ A n c u32E xs] : CallRule Try.prog 5 [.int .u32 (ix.toNat : Int), .slice A n c, .agg (kc k), .bool sec] σ (fun K _ => ∀ σ', Nx σ σ' .no → K (.bool true) σ') := ⟨fun K E hK => by
  have hl := h.len
  by_cases hn : 30 < n
  · haveI : BV (decide ((n : Int) > 30)) true := ⟨decide_eq_true (by omega)⟩
    refine calls_enter Try.func5 rfl _ Try.ntmps5 rfl ?_
    (repeat (first | refine go ?_ | refine goR ?_ | refine goS (fun yc hyc => ?_) | refine goL (fun _ _ => inferInstance) ?_ | with_reducible intro _ | refine goO (by first | omega | (simp only [List.length_cons, List.length_nil]; omega)) ?_ | fail))
    exact backN (σ0 := σ) Try.results5 (fun σ' _ _ => hK σ' inferInstance)
  · haveI : BV (decide ((n : Int) > 30)) false := ⟨decide_eq_false (by omega)⟩
    refine calls_enter Try.func5 rfl _ Try.ntmps5 rfl ?_
    (repeat (first | refine go ?_ | refine goR ?_ | refine goS (fun yc hyc => ?_) | refine goL (fun _ _ => inferInstance) ?_ | with_reducible intro _ | refine goO (by first | omega | (simp only [List.length_cons, List.length_nil]; omega)) ?_ | fail))
    rename Nat => b9
    rename Option Addr => A1
    rename St => s0
    have hbl : (baseO xs k).length = n := by simp [baseO]; omega
    refine WC.loopW 4398029734912 (.one b9 29) (fun (i : Nat) f s => At f 10 (.int .i64 (i : Int)) ∧ i ≤ n ∧ ∃ A2 c2, Own s b9 29 (cats [#[.int .u32 0], #[.slice A1 1 1], #[.slice A2 i c2], kc key0, #[.slice none 0 0], #[.slice none 0 0], #[.int .i64 0]]) ∧ Row s A2 i c2 40 otE ((baseO xs k).take i) ∧ RowNew s0 none A2) (fun i => n - i) 0
      ⟨At.to (.int .i64 0) rfl, Nat.zero_le _, none, 0, inferInstance, by rw [List.take_zero]; exact Row.nil_, ⟨nofun⟩⟩ ?_
    rintro i f s ha hs ⟨a7, hi, A2, c2, ho, hr, hrn⟩
    by_cases hlt : i < n
    · haveI : BV (decide ((i : Int) < (n : Int))) true := ⟨decide_eq_true (by omega)⟩
      haveI : IdxLt i n := ⟨hlt⟩
      haveI : Fits .i64 ((i : Int) + 1) := Fits.i64 (by omega) (by omega)
      have hx := xs[i]!.toNat_lt
      haveI : Fits .i64 (xs[i]!.toNat : Int) := Fits.i64 (by omega) (by omega)
      have hst : (baseO xs k).take (i + 1) = (baseO xs k).take i ++ [⟨Int64.ofInt (xs[i]!.toNat : Int), k⟩] := by
        rw [take_snoc (by omega), getElem!_pos _ i (by omega), getElem!_pos xs i (by omega)]
        simp [baseO]
      (repeat (first | refine go ?_ | refine goR ?_ | refine goS (fun yc hyc => ?_) | refine goL (fun _ _ => inferInstance) ?_ | with_reducible intro _ | refine goO (by first | omega | (simp only [List.length_cons, List.length_nil]; omega)) ?_ | fail))
      refine WC.draw [10, 12] (.l 0 (.l 1 (.p 2 (.p 3 (.l 4 (.l 5 (.l 6 (.l 7 (.l 8 (.h 9 (.h 10 (.l 11 (.h 12 .nil))))))))))))) mixed (by decide +kernel) ?_
      (repeat' (first | refine go ?_ | refine goR ?_ | refine goS (fun yc hyc => ?_) | refine goL (fun _ _ => inferInstance) ?_ | refine goF ?_ ?_ | with_reducible intro _ | refine goO (by first | omega | (simp only [List.length_cons, List.length_nil]; omega)) ?_ | fail))
      all_goals exact loop_w (i + 1) ⟨At.to (.int .i64 ((i : Int) + 1)) (by simp), hlt, _, _, inferInstance, by rw [hst]; infer_instance, Gr.rn inferInstance⟩ (by omega)
    · haveI : BV (decide ((i : Int) < (n : Int))) false := ⟨decide_eq_false (by omega)⟩
      have e : i = n := by omega
      subst e
      rw [take_all (by omega)] at hr
      refine WC.freeze A2 (fun s9 hn9 hs9 => ?_)
      haveI h112 : ∀ {e0 : UInt32} {b0 : Int64} {A3 A4 : Option Addr} {c1 c2 c3 c4 : Nat} {l2 : List Ot} {l3 l4 : List Key}, Is (chkM ⟨e0, ⟨A1, 1, c1, [⟨key0, ix⟩]⟩, ⟨A2, i, c2, l2⟩, key0, ⟨A3, 1, c3, l3⟩, ⟨A4, 1, c4, l4⟩, b0⟩ true) 112 := ⟨base_chk1 (by omega)⟩
      by_cases h0 : i = 0
      · haveI : BV (decide ((i : Int) = 0)) true := ⟨decide_eq_true (by omega)⟩
        haveI : BV (decide ((i : Int) > 0)) false := ⟨decide_eq_false (by omega)⟩
        haveI : ∀ {e0 : UInt32} {b0 : Int64} [z : Z64 b0] {base : Bool}, Is (chkM ⟨e0, ⟨A1, 1, 1, [⟨key0, ix⟩]⟩, ⟨A2, i, c2, baseO xs k⟩, key0, ⟨none, 0, 0, []⟩, ⟨none, 0, 0, []⟩, b0⟩ base) 110 := ⟨by rename_i z _; rw [base_chk0 z.eq hl (by omega), if_pos h0]⟩
        (repeat (first | refine go ?_ | refine goR ?_ | refine goS (fun yc hyc => ?_) | refine goL (fun _ _ => inferInstance) ?_ | with_reducible intro _ | refine goO (by first | omega | (simp only [List.length_cons, List.length_nil]; omega)) ?_ | fail))
        exact backN (σ0 := σ) Try.results5 (fun σ' _ _ => hK σ' inferInstance)
      · haveI : BV (decide ((i : Int) = 0)) false := ⟨decide_eq_false (by omega)⟩
        haveI : BV (decide ((i : Int) > 0)) true := ⟨decide_eq_true (by omega)⟩
        haveI : ∀ {e0 : UInt32} {b0 : Int64} [z : Z64 b0], Is (chkM ⟨e0, ⟨A1, 1, 1, [⟨key0, ix⟩]⟩, ⟨A2, i, c2, baseO xs k⟩, key0, ⟨none, 0, 0, []⟩, ⟨none, 0, 0, []⟩, b0⟩ true) 0 := ⟨by rename_i z; rw [base_chk0 z.eq hl (by omega), if_neg h0]; rfl⟩
        haveI : ∀ {e0 : UInt32} {b0 : Int64} [z : Z64 b0], Is (chkM ⟨e0, ⟨A1, 1, 1, [⟨key0, ix⟩]⟩, ⟨A2, i, c2, baseO xs k⟩, key0, ⟨none, 0, 0, []⟩, ⟨none, 0, 0, []⟩, b0⟩ false) 112 := ⟨by rename_i z; rw [base_chk0 z.eq hl (by omega), if_neg h0]; rfl⟩
        (repeat (first | refine go ?_ | refine goR ?_ | refine goS (fun yc hyc => ?_) | refine goL (fun _ _ => inferInstance) ?_ | with_reducible intro _ | refine goO (by first | omega | (simp only [List.length_cons, List.length_nil]; omega)) ?_ | fail))
        exact backN (σ0 := σ) Try.results5 (fun σ' _ _ => hK σ' inferInstance)⟩
end
end Go.Proofs.Ythdhnkgnbdociaa
