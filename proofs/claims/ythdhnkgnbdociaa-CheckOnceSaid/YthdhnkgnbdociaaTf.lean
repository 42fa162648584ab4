/- tx.Encode, and the reference's: the bytes of a transaction. No condition. -/
import Derived.Test.YthdhnkgnbdociaaTe
set_option linter.all false
set_option maxHeartbeats 40000000
set_option synthInstance.maxHeartbeats 2000000
set_option synthInstance.maxSize 100000
namespace Go.Proofs.Ythdhnkgnbdociaa
open Go Go.RowKit
theorem maxL4 (a b c d : Nat) : maxL [a, b, c, d] = max (max (max a b) c) d := rfl
theorem encE_many {t : Tx} (h : 40 < maxL [t.ins.n, t.outs.n, t.nulls.n, t.notes.n]) : encE t = 51 := by unfold encE; rw [if_pos h]
theorem encE_arg {t : Tx} (h : ¬ 40 < maxL [t.ins.n, t.outs.n, t.nulls.n, t.notes.n]) (h2 : t.nulls.n = 0 ∧ t.anchor ≠ key0) : encE t = 1 := by unfold encE; rw [if_neg h, if_pos h2]
theorem encE_ok {t : Tx} (h : ¬ 40 < maxL [t.ins.n, t.outs.n, t.nulls.n, t.notes.n]) (h2 : ¬ (t.nulls.n = 0 ∧ t.anchor ≠ key0)) : encE t = 0 := by unfold encE; rw [if_neg h, if_neg h2]
theorem encL4 (t : Tx) : ∀ (l : List Key), encL (fun i k => enc4 t (decide (i = 0)) k) 0 l = (if l.length = 0 then [] else t.anchor.toList) ++ l.flatMap (fun k => k.toList)
  | [] => rfl
  | x :: l => by
    have h : ∀ (l : List Key) (i : Nat), encL (fun i k => enc4 t (decide (i = 0)) k) (i + 1) l = l.flatMap (fun k => k.toList) := by
      intro l
      induction l with
      | nil => intro i; rfl
      | cons y l ih =>
        intro i
        rw [encL, ih (i + 1)]
        have e : decide (i + 1 = 0) = false := by simp
        simp only [e, List.flatMap_cons]
        rfl
    rw [encL, h l 0]
    simp [enc4]
section
variable {σ : St} {v1 : Value} {t : Tx}
instance PosN.add_ {n k : Nat} [h : EqB (Nat.ble k 0) false] : PosN (n + k) := ⟨by
  have : ¬ k ≤ 0 := fun e => by have := h.eq; rw [Nat.ble_eq_true_of_le e] at this; cases this
  omega⟩
instance rule_Encode [h : EncV σ txE v1 t] {e : Int} [q : Is (encE t) e] : CallRule Try.prog 19 [v1] σ (fun K _ => ∀ σ', Nx σ σ' .no → K (.tuple #[sv (encS t), .int .i64 e]) σ') := ⟨fun K E hK => by
  have e1 : v1 = .agg (cats [#[.int .u32 (t.exp.toNat : Int)], #[.slice t.ins.A t.ins.n t.ins.c], #[.slice t.outs.A t.outs.n t.outs.c], kc t.anchor, #[.slice t.nulls.A t.nulls.n t.nulls.c], #[.slice t.notes.A t.notes.n t.notes.c], #[.int .i64 t.bal.toInt]]) := h.eq
  subst e1
  haveI : OkE σ txE t := ⟨h.ok⟩
  have hq := q.eq; subst hq
  by_cases hm : 40 < maxL [t.ins.n, t.outs.n, t.nulls.n, t.notes.n]
  · haveI : BV (decide (((maxL [t.ins.n, t.outs.n, t.nulls.n, t.notes.n] : Nat) : Int) > 40)) true := ⟨by simp; omega⟩
    haveI : BV (decide (40 < ((maxL [t.ins.n, t.outs.n, t.nulls.n, t.notes.n] : Nat) : Int))) true := ⟨by simp; omega⟩
    have e2 := encE_many hm
    have e3 : encS t = [] := by unfold encS; rw [e2]; rfl
    rw [e2, e3] at hK
    refine calls_enter Try.func19 rfl _ Try.ntmps19 rfl ?_
    (repeat (first | refine go ?_ | refine goR ?_ | refine goS (fun yc hyc => ?_) | refine goL (fun _ _ => inferInstance) ?_ | with_reducible intro _ | refine goO (by first | omega | (simp only [List.length_cons, List.length_nil]; omega)) ?_ | fail))
    exact backN (σ0 := σ) Try.results19 (fun σ' _ _ => hK σ' inferInstance)
  · haveI : BV (decide (((maxL [t.ins.n, t.outs.n, t.nulls.n, t.notes.n] : Nat) : Int) > 40)) false := ⟨by simp; omega⟩
    haveI : BV (decide (40 < ((maxL [t.ins.n, t.outs.n, t.nulls.n, t.notes.n] : Nat) : Int))) false := ⟨by simp; omega⟩
    have hm4 := hm
    rw [maxL4] at hm4
    by_cases ha : t.nulls.n = 0 ∧ t.anchor ≠ key0
    · haveI : BV (decide ((t.nulls.n : Int) = 0)) true := ⟨by simp; omega⟩
      haveI : BV (decide (t.anchor = key0)) false := ⟨by simpa using ha.2⟩
      have e2 := encE_arg hm ha
      have e3 : encS t = [] := by unfold encS; rw [e2]; rfl
      rw [e2, e3] at hK
      refine calls_enter Try.func19 rfl _ Try.ntmps19 rfl ?_
      (repeat (first | refine go ?_ | refine goR ?_ | refine goS (fun yc hyc => ?_) | refine goL (fun _ _ => inferInstance) ?_ | with_reducible intro _ | refine goO (by first | omega | (simp only [List.length_cons, List.length_nil]; omega)) ?_ | fail))
      exact backN (σ0 := σ) Try.results19 (fun σ' _ _ => hK σ' inferInstance)
    · have e2 := encE_ok hm ha
      have e3 : encS t = encM t := by unfold encS; rw [e2]; rfl
      rw [e2, e3] at hK
      have hl3 := (inferInstance : SL σ t.nulls.A t.nulls.n t.nulls.c keyE t.nulls.l).len
      have hK2 : ∀ (l : Bs) σ', l = encM t → Nx σ σ' .no → K (.tuple #[sv l, .int .i64 0]) σ' := by
        rintro l σ' rfl hn
        exact hK σ' hn
      have fin : ∀ (l : Bs), l = leB 4 t.exp.toNat ++ (leB 1 t.ins.n ++ encL (fun _ k => encPt k) 0 t.ins.l) ++ (leB 1 t.outs.n ++ encL (fun _ k => encOt k) 0 t.outs.l) ++ (leB 1 t.nulls.n ++ encL (fun i k => enc4 t (decide (i = 0)) k) 0 t.nulls.l) ++ (leB 1 t.notes.n ++ encL (fun _ k => k.toList) 0 t.notes.l) ++ leB 8 t.bal.toUInt64.toNat → l = encM t := by
        rintro l rfl
        rw [encL_flat _ encPt (fun _ _ => rfl), encL_flat _ encOt (fun _ _ => rfl), encL_flat _ (fun k : Key => k.toList) (fun _ _ => rfl), encL4, hl3]
        simp only [encM, List.append_assoc]
      by_cases h0 : t.nulls.n = 0
      · haveI : BV (decide ((t.nulls.n : Int) = 0)) true := ⟨by simp; omega⟩
        haveI : BV (decide (t.anchor = key0)) true := ⟨by
          by_cases e : t.anchor = key0
          · simpa using e
          · exact absurd ⟨h0, e⟩ ha⟩
        refine calls_enter Try.func19 rfl _ Try.ntmps19 rfl ?_
        (repeat (first | refine go ?_ | refine goR ?_ | refine goS (fun yc hyc => ?_) | refine goL (fun _ _ => inferInstance) ?_ | with_reducible intro _ | refine goO (by first | omega | (simp only [List.length_cons, List.length_nil]; omega)) ?_ | fail))
        exact backN (σ0 := σ) Try.results19 (fun σ' _ _ => hK2 _ σ' (fin _ (by simp only [List.nil_append])) inferInstance)
      · haveI : BV (decide ((t.nulls.n : Int) = 0)) false := ⟨by simp; omega⟩
        refine calls_enter Try.func19 rfl _ Try.ntmps19 rfl ?_
        (repeat (first | refine go ?_ | refine goR ?_ | refine goS (fun yc hyc => ?_) | refine goL (fun _ _ => inferInstance) ?_ | with_reducible intro _ | refine goO (by first | omega | (simp only [List.length_cons, List.length_nil]; omega)) ?_ | fail))
        exact backN (σ0 := σ) Try.results19 (fun σ' _ _ => hK2 _ σ' (fin _ (by simp only [List.nil_append])) inferInstance)⟩
end
end Go.Proofs.Ythdhnkgnbdociaa
