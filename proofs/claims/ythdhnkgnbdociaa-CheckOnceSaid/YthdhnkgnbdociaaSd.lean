/- Numbers and keys as bytes: codec.Put, Compact, Bytes, and the reference's, by contract. No condition. -/
import Derived.Laws.Shifts
import Derived.Test.YthdhnkgnbdociaaSs
set_option linter.all false
set_option maxHeartbeats 40000000
set_option synthInstance.maxHeartbeats 2000000
set_option synthInstance.maxSize 100000
namespace Go.Proofs.Ythdhnkgnbdociaa
open Go Go.RowKit
def byteN (n i : Nat) : UInt8 := UInt8.ofNat (n / 2 ^ min (8 * i) 64)
def leB (w n : Nat) : Bs := (List.range w).map (byteN n)
theorem leB_len (w n : Nat) : (leB w n).length = w := by simp [leB]
instance LenLe.leB {w n : Nat} : LenLe (leB w n) w := ⟨by rw [leB_len]; exact Nat.le_refl _⟩
instance LenLe.key {k : Key} : LenLe k.toList 32 := ⟨by simp⟩
theorem leB_of {xs : Bs} {w n : Nat} (hl : xs.length = w) (h : ∀ k, k < w → xs[k]! = byteN n k) : xs = leB w n := by
  apply List.ext_getElem
  · rw [leB_len, hl]
  · intro i h1 h2
    have := h i (by omega)
    rw [getElem!_pos xs i h1] at this
    rw [this]; simp [leB]
theorem leB_take {w n i : Nat} (h : i < w) : (leB w n).take (i + 1) = (leB w n).take i ++ [byteN n i] := by
  rw [take_snoc (by rw [leB_len]; exact h), getElem!_pos _ i (by rw [leB_len]; exact h)]
  simp [leB]
section
variable {P : Program} {f : Fr} {σ : St} {ty : TypeId}
instance (priority := low) ToNat.mul {j k : Int} {i l : Nat} [h : ToNat j i] [g : ToNat k l] : ToNat (j * k) (i * l) := ⟨by rw [h.eq, g.eq]; simp⟩
instance StepV.shr_nat {k' : IntKind} {a b : Int} {n m : Nat} {t u : TypeId} {x y : Operand} [h : Ev f x (.int .u64 a)] [g : Ev f y (.int k' b)] [q : ToNat a n] [q' : ToNat b m] : StepV P (.binOp .shr t x y u) ty f σ (.int .u64 ((n / 2 ^ min m 64 : Nat) : Int)) := ⟨by
  have e1 := q.eq; have e2 := q'.eq
  subst e1; subst e2
  have hr := shift_shr_any .u64 k' (n : Int) (m : Int) (by omega)
  have hb : IntKind.u64.bits = 64 := rfl
  simp only [Int.toNat_natCast, hb] at hr
  simp [execOp, h.eq, g.eq, binOp, eqGuard, hr, program, Sem.run]⟩
instance (priority := 500) StepV.conv_low8 {src dst : TypeId} {d : TypeDesc} {a : Int} {n : Nat} {x : Operand} [h : Ev f x (.int .u64 a)] [us : U P src d] [ud : U P dst (.int .u8)] [q : ToNat a n] : StepV P (.convert src dst x) ty f σ (.int .u8 ((UInt8.ofNat n).toNat : Int)) := ⟨by
  have e1 := q.eq
  subst e1
  have hm : IntKind.u8.wrap (n : Int) = ((UInt8.ofNat n).toNat : Int) := by rw [IntKind.wrap_u8]; simp
  simp [execOp, h.eq, conv_run us ud, hm]⟩
end
section
variable {σ : St} {j jw : Int} {n w : Nat} {k : Key}
instance rule_little64 [q : ToNat j n] [qw : ToNat jw w] : CallRule Try.prog 60 [.int .u64 j, .int .i64 jw] σ (fun K _ => (w ≤ 8) ∧ ∀ σ', Nx σ σ' .no → K (sv (leB w n)) σ') := ⟨fun K E hK => by
  obtain ⟨hw, hK⟩ := hK
  have e1 := q.eq; have e2 := qw.eq
  subst e1; subst e2
  refine calls_enter Try.func60 rfl _ Try.ntmps60 rfl ?_
  (repeat (first | refine go ?_ | refine goR ?_ | refine goS (fun yc hyc => ?_) | refine goL (fun _ _ => inferInstance) ?_ | with_reducible intro _ | refine goO (by first | omega | (simp only [List.length_cons, List.length_nil]; omega)) ?_ | fail))
  rename Option Addr => A1
  refine WC.loopW 8386624 (.row A1 5) (fun (i : Nat) f s => At f 11 (.int .i64 (i : Int)) ∧ i ≤ w ∧ ∃ xs, Row s A1 w w 5 u8E xs ∧ ∀ k, k < i → xs[k]! = byteN n k) (fun i => w - i) 0
    ⟨At.to (.int .i64 0) rfl, Nat.zero_le _, _, inferInstance, by omega⟩ ?_
  rintro i f s ha hs ⟨a11, hi, xs, hr, hx⟩
  have hxl := hr.len
  by_cases hlt : i < w
  · haveI : BV (decide ((i : Int) < (w : Int))) true := ⟨by simpa using hlt⟩
    haveI : IdxLt i w := ⟨hlt⟩
    haveI : Fits .i64 (8 * (i : Int)) := Fits.i64 (by omega) (by omega)
    haveI : Fits .i64 ((i : Int) + 1) := Fits.i64 (by omega) (by omega)
    (repeat (first | refine go ?_ | refine goR ?_ | refine goS (fun yc hyc => ?_) | refine goL (fun _ _ => inferInstance) ?_ | with_reducible intro _ | refine goO (by first | omega | (simp only [List.length_cons, List.length_nil]; omega)) ?_ | fail))
    refine loop_w (i + 1) ⟨At.to (.int .i64 ((i : Int) + 1)) (by simp), hlt, _, inferInstance, fun k hk => ?_⟩ (by omega)
    rw [getElem!_pos _ k (by simp; omega), List.getElem_set]
    by_cases e : i = k
    · rw [if_pos e, ← e]; rfl
    · rw [if_neg e, ← hx k (by omega), getElem!_pos xs k (by omega)]
  · haveI : BV (decide ((i : Int) < (w : Int))) false := ⟨by simpa using hlt⟩
    have e : xs = leB w n := leB_of hxl (fun k hk => hx k (by omega))
    subst e
    (repeat (first | refine go ?_ | refine goR ?_ | refine goS (fun yc hyc => ?_) | refine goL (fun _ _ => inferInstance) ?_ | with_reducible intro _ | refine goO (by first | omega | (simp only [List.length_cons, List.length_nil]; omega)) ?_ | fail))
    exact backN (σ0 := σ) Try.results60 (fun σ' _ _ => hK σ' inferInstance)⟩
instance rule_little8 [q : ToNat j n] [qw : ToNat jw w] : CallRule Try.prog 69 [.int .u8 j, .int .i64 jw] σ (fun K _ => (n ≤ 255 ∧ w ≤ 8) ∧ ∀ σ', Nx σ σ' .no → K (sv (leB w n)) σ') := ⟨fun K E hK => by
  obtain ⟨⟨hn, hw⟩, hK⟩ := hK
  have e1 := q.eq; have e2 := qw.eq
  subst e1; subst e2
  haveI : Fits .u64 (n : Int) := Fits.u64 (by omega) (by omega)
  refine calls_enter Try.func69 rfl _ Try.ntmps69 rfl ?_
  (repeat (first | refine go ?_ | refine goR ?_ | refine goS (fun yc hyc => ?_) | refine goL (fun _ _ => inferInstance) ?_ | with_reducible intro _ | refine goO (by first | omega | (simp only [List.length_cons, List.length_nil]; omega)) ?_ | fail))
  rename Option Addr => A1
  refine WC.loopW 16775232 (.row A1 5) (fun (i : Nat) f s => At f 11 (.int .i64 (i : Int)) ∧ i ≤ w ∧ ∃ xs, Row s A1 w w 5 u8E xs ∧ ∀ k, k < i → xs[k]! = byteN n k) (fun i => w - i) 0
    ⟨At.to (.int .i64 0) rfl, Nat.zero_le _, _, inferInstance, by omega⟩ ?_
  rintro i f s ha hs ⟨a11, hi, xs, hr, hx⟩
  have hxl := hr.len
  by_cases hlt : i < w
  · haveI : BV (decide ((i : Int) < (w : Int))) true := ⟨by simpa using hlt⟩
    haveI : IdxLt i w := ⟨hlt⟩
    haveI : Fits .i64 (8 * (i : Int)) := Fits.i64 (by omega) (by omega)
    haveI : Fits .i64 ((i : Int) + 1) := Fits.i64 (by omega) (by omega)
    (repeat (first | refine go ?_ | refine goR ?_ | refine goS (fun yc hyc => ?_) | refine goL (fun _ _ => inferInstance) ?_ | with_reducible intro _ | refine goO (by first | omega | (simp only [List.length_cons, List.length_nil]; omega)) ?_ | fail))
    refine loop_w (i + 1) ⟨At.to (.int .i64 ((i : Int) + 1)) (by simp), hlt, _, inferInstance, fun k hk => ?_⟩ (by omega)
    rw [getElem!_pos _ k (by simp; omega), List.getElem_set]
    by_cases e : i = k
    · rw [if_pos e, ← e]; rfl
    · rw [if_neg e, ← hx k (by omega), getElem!_pos xs k (by omega)]
  · haveI : BV (decide ((i : Int) < (w : Int))) false := ⟨by simpa using hlt⟩
    have e : xs = leB w n := leB_of hxl (fun k hk => hx k (by omega))
    subst e
    (repeat (first | refine go ?_ | refine goR ?_ | refine goS (fun yc hyc => ?_) | refine goL (fun _ _ => inferInstance) ?_ | with_reducible intro _ | refine goO (by first | omega | (simp only [List.length_cons, List.length_nil]; omega)) ?_ | fail))
    exact backN (σ0 := σ) Try.results69 (fun σ' _ _ => hK σ' inferInstance)⟩
instance rule_Put [q : ToNat j n] [qw : ToNat jw w] : CallRule Try.prog 34 [.int .u64 j, .int .i64 jw] σ (fun K _ => (1 ≤ w ∧ w ≤ 8) ∧ ∀ σ', Nx σ σ' .no → K (sv (leB w n)) σ') := ⟨fun K E hK => by
  obtain ⟨⟨hw1, hw⟩, hK⟩ := hK
  have e1 := q.eq; have e2 := qw.eq
  subst e1; subst e2
  haveI : BV (decide ((w : Int) < 1)) false := ⟨by simp; omega⟩
  haveI : BV (decide ((w : Int) > 8)) false := ⟨by simp; omega⟩
  haveI : BV (decide (8 < (w : Int))) false := ⟨by simp; omega⟩
  refine calls_enter Try.func34 rfl _ Try.ntmps34 rfl ?_
  (repeat (first | refine go ?_ | refine goR ?_ | refine goS (fun yc hyc => ?_) | refine goL (fun _ _ => inferInstance) ?_ | with_reducible intro _ | refine goO (by first | omega | (simp only [List.length_cons, List.length_nil]; omega)) ?_ | fail))
  exact backN (σ0 := σ) Try.results34 (fun σ' _ _ => hK σ' inferInstance)⟩
instance rule_Compact [q : ToNat j n] : CallRule Try.prog 61 [.int .u64 j] σ (fun K _ => (n < 253) ∧ ∀ σ', Nx σ σ' .no → K (sv (leB 1 n)) σ') := ⟨fun K E hK => by
  obtain ⟨hn, hK⟩ := hK
  have e1 := q.eq
  subst e1
  haveI : BV (decide ((n : Int) < 253)) true := ⟨by simp; omega⟩
  haveI : Fits .u8 (n : Int) := Fits.u8 (by omega) (by omega)
  refine calls_enter Try.func61 rfl _ Try.ntmps61 rfl ?_
  (repeat (first | refine go ?_ | refine goR ?_ | refine goS (fun yc hyc => ?_) | refine goL (fun _ _ => inferInstance) ?_ | with_reducible intro _ | refine goO (by first | omega | (simp only [List.length_cons, List.length_nil]; omega)) ?_ | fail))
  exact backN (σ0 := σ) Try.results61 (fun σ' _ _ => hK σ' inferInstance)⟩
instance rule_Bytes : CallRule Try.prog 33 [.agg (kc k)] σ (fun K _ => ∀ σ', Nx σ σ' .no → K (sv k.toList) σ') := ⟨fun K E hK => by
  refine calls_enter Try.func33 rfl _ Try.ntmps33 rfl ?_
  (repeat (first | refine go ?_ | refine goR ?_ | refine goS (fun yc hyc => ?_) | refine goL (fun _ _ => inferInstance) ?_ | with_reducible intro _ | refine goO (by first | omega | (simp only [List.length_cons, List.length_nil]; omega)) ?_ | fail))
  exact backN (σ0 := σ) Try.results33 (fun σ' _ _ => hK σ' inferInstance)⟩
instance rule_ref_Put [q : ToNat j n] [qw : ToNat jw w] : CallRule Try.prog 50 [.int .u64 j, .int .i64 jw] σ (fun K _ => (1 ≤ w ∧ w ≤ 8) ∧ ∀ σ', Nx σ σ' .no → K (sv (leB w n)) σ') := ⟨fun K E hK => by
  obtain ⟨⟨hw1, hw⟩, hK⟩ := hK
  have e1 := q.eq; have e2 := qw.eq
  subst e1; subst e2
  haveI : BV (decide ((w : Int) < 1)) false := ⟨by simp; omega⟩
  haveI : BV (decide ((w : Int) > 8)) false := ⟨by simp; omega⟩
  haveI : BV (decide (8 < (w : Int))) false := ⟨by simp; omega⟩
  refine calls_enter Try.func50 rfl _ Try.ntmps50 rfl ?_
  (repeat (first | refine go ?_ | refine goR ?_ | refine goS (fun yc hyc => ?_) | refine goL (fun _ _ => inferInstance) ?_ | with_reducible intro _ | refine goO (by first | omega | (simp only [List.length_cons, List.length_nil]; omega)) ?_ | fail))
  rename Option Addr => A0
  rename St => s0
  refine WC.loopW 134201440 (.row A0 5) (fun (i : Nat) f s => At f 6 (.int .i64 (i : Int)) ∧ i ≤ w ∧ ∃ A1 c1, At f 5 (.slice A1 i c1) ∧ Row s A1 i c1 5 u8E ((leB w n).take i) ∧ RowNew s0 A0 A1) (fun i => w - i) 0
    ⟨At.to (.int .i64 0) rfl, Nat.zero_le _, _, _, inferInstance, by rw [List.take_zero]; infer_instance, Gr.rn inferInstance⟩ ?_
  rintro i f s ha hs ⟨a6, hi, A1, c1, a5, hr, hrn⟩
  by_cases hlt : i < w
  · haveI : BV (decide ((i : Int) < (w : Int))) true := ⟨by simpa using hlt⟩
    haveI : Fits .i64 (8 * (i : Int)) := Fits.i64 (by omega) (by omega)
    haveI : Fits .i64 ((i : Int) + 1) := Fits.i64 (by omega) (by omega)
    (repeat (first | refine go ?_ | refine goR ?_ | refine goS (fun yc hyc => ?_) | refine goL (fun _ _ => inferInstance) ?_ | with_reducible intro _ | refine goO (by first | omega | (simp only [List.length_cons, List.length_nil]; omega)) ?_ | fail))
    refine loop_w (i + 1) ⟨At.to (.int .i64 ((i : Int) + 1)) (by simp), hlt, _, _, inferInstance, by rw [leB_take hlt]; infer_instance, Gr.rn inferInstance⟩ (by omega)
  · haveI : BV (decide ((i : Int) < (w : Int))) false := ⟨by simpa using hlt⟩
    have e : i = w := by omega
    subst e
    rw [take_all (by rw [leB_len])] at hr
    (repeat (first | refine go ?_ | refine goR ?_ | refine goS (fun yc hyc => ?_) | refine goL (fun _ _ => inferInstance) ?_ | with_reducible intro _ | refine goO (by first | omega | (simp only [List.length_cons, List.length_nil]; omega)) ?_ | fail))
    exact backN (σ0 := σ) Try.results50 (fun σ' _ _ => hK σ' inferInstance)⟩
instance rule_ref_Compact [q : ToNat j n] : CallRule Try.prog 51 [.int .u64 j] σ (fun K _ => (n < 253) ∧ ∀ σ', Nx σ σ' .no → K (sv (leB 1 n)) σ') := ⟨fun K E hK => by
  obtain ⟨hn, hK⟩ := hK
  have e1 := q.eq
  subst e1
  haveI : BV (decide ((n : Int) < 253)) true := ⟨by simp; omega⟩
  refine calls_enter Try.func51 rfl _ Try.ntmps51 rfl ?_
  (repeat (first | refine go ?_ | refine goR ?_ | refine goS (fun yc hyc => ?_) | refine goL (fun _ _ => inferInstance) ?_ | with_reducible intro _ | refine goO (by first | omega | (simp only [List.length_cons, List.length_nil]; omega)) ?_ | fail))
  exact backN (σ0 := σ) Try.results51 (fun σ' _ _ => hK σ' inferInstance)⟩
instance rule_ref_Bytes : CallRule Try.prog 52 [.agg (kc k)] σ (fun K _ => ∀ σ', Nx σ σ' .no → K (sv k.toList) σ') := ⟨fun K E hK => by
  have hkl : k.toList.length = 32 := by simp
  refine calls_enter Try.func52 rfl _ Try.ntmps52 rfl ?_
  (repeat (first | refine go ?_ | refine goR ?_ | refine goS (fun yc hyc => ?_) | refine goL (fun _ _ => inferInstance) ?_ | with_reducible intro _ | refine goO (by first | omega | (simp only [List.length_cons, List.length_nil]; omega)) ?_ | fail))
  rename Option Addr => A0
  rename St => s0
  refine WC.loopW 65496 (.row A0 5) (fun (i : Nat) f s => At f 4 (.int .i64 (i : Int)) ∧ i ≤ 32 ∧ ∃ A1 c1, At f 3 (.slice A1 i c1) ∧ Row s A1 i c1 5 u8E (k.toList.take i) ∧ RowNew s0 A0 A1) (fun i => 32 - i) 0
    ⟨At.to (.int .i64 0) rfl, Nat.zero_le _, _, _, inferInstance, by rw [List.take_zero]; infer_instance, Gr.rn inferInstance⟩ ?_
  rintro i f s ha hs ⟨a6, hi, A1, c1, a5, hr, hrn⟩
  by_cases hlt : i < 32
  · haveI : BV (decide ((i : Int) < 32)) true := ⟨by simp; omega⟩
    haveI : IdxLt i 32 := ⟨hlt⟩
    haveI : Fits .i64 ((i : Int) + 1) := Fits.i64 (by omega) (by omega)
    have hst : k.toList.take (i + 1) = k.toList.take i ++ [k[i]!] := by
      rw [take_snoc (by omega), getElem!_pos _ i (by omega), getElem!_pos k i hlt]; simp
    (repeat (first | refine go ?_ | refine goR ?_ | refine goS (fun yc hyc => ?_) | refine goL (fun _ _ => inferInstance) ?_ | with_reducible intro _ | refine goO (by first | omega | (simp only [List.length_cons, List.length_nil]; omega)) ?_ | fail))
    refine loop_w (i + 1) ⟨At.to (.int .i64 ((i : Int) + 1)) (by simp), hlt, _, _, inferInstance, by rw [hst]; infer_instance, Gr.rn inferInstance⟩ (by omega)
  · haveI : BV (decide ((i : Int) < 32)) false := ⟨by simp; omega⟩
    have e : i = 32 := by omega
    subst e
    rw [take_all (by omega)] at hr
    (repeat (first | refine go ?_ | refine goR ?_ | refine goS (fun yc hyc => ?_) | refine goL (fun _ _ => inferInstance) ?_ | with_reducible intro _ | refine goO (by first | omega | (simp only [List.length_cons, List.length_nil]; omega)) ?_ | fail))
    exact backN (σ0 := σ) Try.results52 (fun σ' _ _ => hK σ' inferInstance)⟩
end
end Go.Proofs.Ythdhnkgnbdociaa
