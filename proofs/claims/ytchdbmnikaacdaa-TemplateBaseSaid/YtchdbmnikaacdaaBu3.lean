/- Texts of this claim, merged: H1, Sb, Te, Tf, Tg, Df, Mo, SlKey, Sq, Sr, K1, K2, Ks, Srt, Stg, Sym, Srb, K3, Km, Kl, K4, K5, H2, H3, I1, I2, I3, Fr, Fo. No condition. -/
import Derived.Lib.Builder
import Derived.Defers
import Derived.Recover
import Derived.Test.YtchdbmnikaacdaaRows
import Derived.WalkKit
import Derived.ProofKit
import Derived.OpenShut
import Derived.ShutString
import Derived.ChangeOld
import Derived.Below
import Derived.Deep.Slices
import Derived.Test.YtchdbmnikaacdaaBu1
import Derived.Test.YtchdbmnikaacdaaBu2
/- check.Values, Points, and the reference's, by contract.  -/
set_option linter.all false
set_option maxHeartbeats 40000000
set_option synthInstance.maxHeartbeats 2000000
set_option synthInstance.maxSize 100000
namespace Go.Proofs.Ytchdbmnikaacdaa
open Go Go.RowKit
def ptD (xs : List Pt) : Bool := decide xs.Nodup
def zeroM (t : Tx) : Bool := t.ins.l.any fun p => decide (p.tx = key0)
def valsM (t : Tx) : List Int64 := t.outs.l.map (·.val)
theorem nodup_take {xs : List Pt} {i : Nat} (h : i < xs.length) : (xs.take (i + 1)).Nodup ↔ (xs.take i).Nodup ∧ (xs.take i).any (fun p => decide (p = xs[i]!)) = false := by
  rw [take_snoc h, List.nodup_append, List.any_eq_false]
  constructor
  · rintro ⟨h1, _, h2⟩
    exact ⟨h1, fun x hx => by have := h2 x hx _ (List.mem_singleton.2 rfl); simpa using this⟩
  · rintro ⟨h1, h2⟩
    exact ⟨h1, by simp, fun a ha b hb => by
      rw [List.mem_singleton] at hb; subst hb
      have := h2 a ha; simpa using this⟩
theorem any_take {α : Type} [Inhabited α] {xs : List α} {p : α → Bool} {i : Nat} (h : i < xs.length) : (xs.take (i + 1)).any p = ((xs.take i).any p || p xs[i]!) := by
  rw [take_snoc h, List.any_append]; simp
theorem nodup_not {xs : List Pt} {i : Nat} (h : ¬ (xs.take i).Nodup) : ¬ xs.Nodup := fun k => h (k.sublist (List.take_sublist _ _))
theorem putM_count {M : List (Pt × Int)} {xs : List Pt} {i : Nat} (h : i < xs.length) (hin : ∀ p, inM M p = (xs.take i).any (fun x => decide (x = p))) (hml : M.length ≤ i) (hmn : M.length = i ↔ (xs.take i).Nodup) (v : Int) :
    (putM M xs[i]! v).length ≤ i + 1 ∧ ((putM M xs[i]! v).length = i + 1 ↔ (xs.take (i + 1)).Nodup) := by
  rw [nodup_take h, ← hin, ← hmn]
  cases hc : inM M xs[i]! with
  | true =>
    have : putM M xs[i]! v = setM M xs[i]! v := by unfold putM; rw [if_pos hc]
    rw [this, setM_len]
    refine ⟨by omega, ⟨fun e => by omega, fun e => by cases e.2⟩⟩
  | false =>
    have : putM M xs[i]! v = M ++ [(xs[i]!, v)] := by unfold putM; rw [hc]; rfl
    rw [this]
    simp only [List.length_append, List.length_cons, List.length_nil, and_true]
    omega
section
variable {σ : St} {A B : Option Addr} {n c m d b : Nat} {xs ys : List Pt} {t : Tx} {v1 v2 : Value}
instance rule_ref_Values [h : EncV σ txE v1 t] : CallRule Try.prog 17 [v1] σ (fun K _ => (t.outs.n ≤ 100000000000) ∧ ∀ σ' A' c', Nx σ σ' .no → RowNew σ none A' → SL σ' A' t.outs.n c' i64E (valsM t) → K (.slice A' t.outs.n c') σ') := ⟨fun K E hK => by
  obtain ⟨hn, hK⟩ := hK
  have e1 : v1 = .agg (cats [#[.int .u32 (t.exp.toNat : Int)], #[.slice t.ins.A t.ins.n t.ins.c], #[.slice t.outs.A t.outs.n t.outs.c], kc t.anchor, #[.slice t.nulls.A t.nulls.n t.nulls.c], #[.slice t.notes.A t.notes.n t.notes.c], #[.int .i64 t.bal.toInt]]) := h.eq
  subst e1
  haveI : OkE σ txE t := ⟨h.ok⟩
  have hl := (inferInstance : SL σ t.outs.A t.outs.n t.outs.c otE t.outs.l).len
  have hvl : (valsM t).length = t.outs.n := by simp [valsM]; omega
  refine calls_enter Try.func17 rfl _ Try.ntmps17 rfl ?_
  (repeat (first | refine go ?_ | refine goR ?_ | refine goS (fun yc hyc => ?_) | refine goL (fun _ _ => inferInstance) ?_ | with_reducible intro _ | refine goO (by first | omega | (simp only [List.length_cons, List.length_nil]; omega)) ?_ | fail))
  rename Option Addr => A0
  rename St => s0
  refine WC.loopW 4194264 (.row A0 2) (fun (i : Nat) f s => At f 4 (.int .i64 (i : Int)) ∧ i ≤ t.outs.n ∧ ∃ A1 c1, At f 3 (.slice A1 i c1) ∧ Row s A1 i c1 2 i64E ((valsM t).take i) ∧ RowNew s0 A0 A1) (fun i => t.outs.n - i) 0
    ⟨At.to (.int .i64 0) rfl, Nat.zero_le _, _, _, inferInstance, by rw [List.take_zero]; infer_instance, Gr.rn inferInstance⟩ ?_
  rintro i f s ha hs ⟨a8, hi, A1, c1, a3, hr, hrn⟩
  by_cases hlt : i < t.outs.n
  · haveI : BV (decide ((i : Int) < (t.outs.n : Int))) true := ⟨by simpa using hlt⟩
    haveI : IdxLt i t.outs.n := ⟨hlt⟩
    haveI : Fits .i64 ((i : Int) + 1) := Fits.i64 (by omega) (by omega)
    have hst : (valsM t).take (i + 1) = (valsM t).take i ++ [t.outs.l[i]!.val] := by
      rw [take_snoc (by omega), getElem!_pos _ i (by omega), getElem!_pos t.outs.l i (by omega)]
      simp [valsM]
    (repeat (first | refine go ?_ | refine goR ?_ | refine goS (fun yc hyc => ?_) | refine goL (fun _ _ => inferInstance) ?_ | with_reducible intro _ | refine goO (by first | omega | (simp only [List.length_cons, List.length_nil]; omega)) ?_ | fail))
    refine loop_w (i + 1) ⟨At.to (.int .i64 ((i : Int) + 1)) (by simp), hlt, _, _, inferInstance, by rw [hst]; infer_instance, Gr.rn inferInstance⟩ (by omega)
  · haveI : BV (decide ((i : Int) < (t.outs.n : Int))) false := ⟨by simpa using hlt⟩
    have e : i = t.outs.n := by omega
    subst e
    rw [take_all (by omega)] at hr
    (repeat (first | refine go ?_ | refine goR ?_ | refine goS (fun yc hyc => ?_) | refine goL (fun _ _ => inferInstance) ?_ | with_reducible intro _ | refine goO (by first | omega | (simp only [List.length_cons, List.length_nil]; omega)) ?_ | fail))
    exact backN (σ0 := σ) Try.results17 (fun σ' _ _ => hK σ' _ _ inferInstance (Gr.rn inferInstance) inferInstance)⟩
instance rule_ref_zero [h : EncV σ txE v1 t] {bb : Bool} [q : BV (zeroM t) bb] : CallRule Try.prog 13 [v1] σ (fun K _ => ∀ σ', Nx σ σ' .no → K (.bool bb) σ') := ⟨fun K E hK => by
  have hq := q.eq; subst hq
  have e1 : v1 = .agg (cats [#[.int .u32 (t.exp.toNat : Int)], #[.slice t.ins.A t.ins.n t.ins.c], #[.slice t.outs.A t.outs.n t.outs.c], kc t.anchor, #[.slice t.nulls.A t.nulls.n t.nulls.c], #[.slice t.notes.A t.notes.n t.notes.c], #[.int .i64 t.bal.toInt]]) := h.eq
  subst e1
  haveI : OkE σ txE t := ⟨h.ok⟩
  have hs0 := (inferInstance : SL σ t.ins.A t.ins.n t.ins.c ptE t.ins.l)
  have hl := hs0.len
  have hmx := hs0.max
  refine calls_enter Try.func13 rfl _ Try.ntmps13 rfl ?_
  (repeat (first | refine go ?_ | refine goR ?_ | refine goS (fun yc hyc => ?_) | refine goL (fun _ _ => inferInstance) ?_ | with_reducible intro _ | refine goO (by first | omega | (simp only [List.length_cons, List.length_nil]; omega)) ?_ | fail))
  refine WC.loopW 524284 .no (fun (i : Nat) f s => At f 3 (.int .i64 (i : Int)) ∧ i ≤ t.ins.n ∧ (t.ins.l.take i).any (fun p => decide (p.tx = key0)) = false) (fun i => t.ins.n - i) 0
    ⟨At.to (.int .i64 0) rfl, Nat.zero_le _, rfl⟩ ?_
  rintro i f s ha hs ⟨a8, hi, hz⟩
  by_cases hlt : i < t.ins.n
  · haveI : BV (decide ((i : Int) < (t.ins.n : Int))) true := ⟨by simpa using hlt⟩
    haveI : IdxLt i t.ins.n := ⟨hlt⟩
    haveI : Fits .i64 ((i : Int) + 1) := Fits.i64 (by omega) (by omega)
    have hst := any_take (p := fun p : Pt => decide (p.tx = key0)) (xs := t.ins.l) (i := i) (by omega)
    by_cases hk : t.ins.l[i]!.tx = key0
    · haveI : BV (decide (t.ins.l[i]!.tx = key0)) true := ⟨by simpa using hk⟩
      have e : zeroM t = true := by
        unfold zeroM
        rw [List.any_eq_true]
        exact ⟨t.ins.l[i]!, by rw [getElem!_pos _ i (by omega)]; exact List.getElem_mem _, by simpa using hk⟩
      rw [e] at hK
      (repeat (first | refine go ?_ | refine goR ?_ | refine goS (fun yc hyc => ?_) | refine goL (fun _ _ => inferInstance) ?_ | with_reducible intro _ | refine goO (by first | omega | (simp only [List.length_cons, List.length_nil]; omega)) ?_ | fail))
      exact backN (σ0 := σ) Try.results13 (fun σ' _ _ => hK σ' inferInstance)
    · haveI : BV (decide (t.ins.l[i]!.tx = key0)) false := ⟨by simpa using hk⟩
      (repeat (first | refine go ?_ | refine goR ?_ | refine goS (fun yc hyc => ?_) | refine goL (fun _ _ => inferInstance) ?_ | with_reducible intro _ | refine goO (by first | omega | (simp only [List.length_cons, List.length_nil]; omega)) ?_ | fail))
      exact loop_w (i + 1) ⟨At.to (.int .i64 ((i : Int) + 1)) (by simp), hlt, by rw [hst, hz]; simpa using hk⟩ (by omega)
  · haveI : BV (decide ((i : Int) < (t.ins.n : Int))) false := ⟨by simpa using hlt⟩
    rw [take_all (by omega)] at hz
    have e : zeroM t = false := hz
    rw [e] at hK
    (repeat (first | refine go ?_ | refine goR ?_ | refine goS (fun yc hyc => ?_) | refine goL (fun _ _ => inferInstance) ?_ | with_reducible intro _ | refine goO (by first | omega | (simp only [List.length_cons, List.length_nil]; omega)) ?_ | fail))
    exact backN (σ0 := σ) Try.results13 (fun σ' _ _ => hK σ' inferInstance)⟩
instance rule_ref_Points [hq : SLq σ A n c ptE xs] {bb : Bool} [q : BV (ptD xs) bb] : CallRule Try.prog 14 [.slice A n c] σ (fun K _ => ∀ σ', Nx σ σ' .no → K (.bool bb) σ') := ⟨fun K E hK => by
  have hqq := q.eq; subst hqq
  haveI h := hq.sl
  have hl := h.len
  have hmx := h.max
  refine calls_enter Try.func14 rfl _ Try.ntmps14 rfl ?_
  (repeat (first | refine go ?_ | refine goR ?_ | refine goS (fun yc hyc => ?_) | refine goL (fun _ _ => inferInstance) ?_ | with_reducible intro _ | refine goO (by first | omega | (simp only [List.length_cons, List.length_nil]; omega)) ?_ | fail))
  refine WC.loopW 33554428 .no (fun (i : Nat) f s => At f 3 (.int .i64 (i : Int)) ∧ i ≤ n ∧ (xs.take i).Nodup) (fun i => n - i) 0
    ⟨At.to (.int .i64 0) rfl, Nat.zero_le _, by simp⟩ ?_
  rintro i f s ha hs ⟨a8, hi, hz⟩
  by_cases hlt : i < n
  · haveI : BV (decide ((i : Int) < (n : Int))) true := ⟨by simpa using hlt⟩
    haveI : IdxLt i n := ⟨hlt⟩
    haveI : Fits .i64 ((i : Int) + 1) := Fits.i64 (by omega) (by omega)
    have hnd := nodup_take (xs := xs) (i := i) (by omega)
    (repeat (first | refine go ?_ | refine goR ?_ | refine goS (fun yc hyc => ?_) | refine goL (fun _ _ => inferInstance) ?_ | with_reducible intro _ | refine goO (by first | omega | (simp only [List.length_cons, List.length_nil]; omega)) ?_ | fail))
    refine WC.loopW 33552404 .no (fun (j : Nat) f s => At f 4 (.int .i64 (j : Int)) ∧ j ≤ i ∧ (xs.take j).any (fun p => decide (p = xs[i]!)) = false) (fun j => i - j) 0
      ⟨At.to (.int .i64 0) rfl, Nat.zero_le _, rfl⟩ ?_
    rintro j f2 s2 ha2 hs2 ⟨a4, hj, hz2⟩
    by_cases hlt2 : j < i
    · haveI : BV (decide ((j : Int) < (i : Int))) true := ⟨by simpa using hlt2⟩
      haveI : IdxLt j n := ⟨by omega⟩
      haveI : Fits .i64 ((j : Int) + 1) := Fits.i64 (by omega) (by omega)
      have hst := any_take (p := fun p : Pt => decide (p = xs[i]!)) (xs := xs) (i := j) (by omega)
      by_cases hk : xs[i]! = xs[j]!
      · haveI : BV (decide (xs[i]! = xs[j]!)) true := ⟨by simpa using hk⟩
        have hno : ¬ (xs.take (i + 1)).Nodup := fun k => by
          have := (hnd.1 k).2
          rw [List.any_eq_false] at this
          have hm : xs[j]! ∈ xs.take i := by rw [getElem!_pos _ j (by omega)]; rw [List.mem_take_iff_getElem]; exact ⟨j, by omega, rfl⟩
          have := this _ hm
          simp [hk] at this
        have e : ptD xs = false := by unfold ptD; simpa using nodup_not hno
        rw [e] at hK
        (repeat (first | refine go ?_ | refine goR ?_ | refine goS (fun yc hyc => ?_) | refine goL (fun _ _ => inferInstance) ?_ | with_reducible intro _ | refine goO (by first | omega | (simp only [List.length_cons, List.length_nil]; omega)) ?_ | fail))
        refine WC.draw [] (.p 0 (.p 1 (.l 2 (.l 3 (.p 4 (.p 5 (.l 6 (.l 7 (.p 8 .nil))))))))) mixed (by decide +kernel) ?_
        (repeat' (first | refine go ?_ | refine goR ?_ | refine goS (fun yc hyc => ?_) | refine goL (fun _ _ => inferInstance) ?_ | refine goF ?_ ?_ | refine goG ?_ ?_ ?_ | with_reducible intro _ | refine goO (by first | omega | (simp only [List.length_cons, List.length_nil]; omega)) ?_ | fail))
        all_goals exact backN (σ0 := σ) Try.results14 (fun σ' _ _ => hK σ' inferInstance)
      · haveI : BV (decide (xs[i]! = xs[j]!)) false := ⟨by simpa using hk⟩
        (repeat (first | refine go ?_ | refine goR ?_ | refine goS (fun yc hyc => ?_) | refine goL (fun _ _ => inferInstance) ?_ | with_reducible intro _ | refine goO (by first | omega | (simp only [List.length_cons, List.length_nil]; omega)) ?_ | fail))
        refine WC.draw [] (.p 0 (.p 1 (.l 2 (.l 3 (.p 4 (.p 5 (.l 6 (.l 7 (.p 8 .nil))))))))) mixed (by decide +kernel) ?_
        (repeat' (first | refine go ?_ | refine goR ?_ | refine goS (fun yc hyc => ?_) | refine goL (fun _ _ => inferInstance) ?_ | refine goF ?_ ?_ | refine goG ?_ ?_ ?_ | with_reducible intro _ | refine goO (by first | omega | (simp only [List.length_cons, List.length_nil]; omega)) ?_ | fail))
        all_goals exact loop_w (j + 1) ⟨At.to (.int .i64 ((j : Int) + 1)) (by simp), hlt2, by rw [hst, hz2]; simpa using Ne.symm hk⟩ (by omega)
    · haveI : BV (decide ((j : Int) < (i : Int))) false := ⟨by simpa using hlt2⟩
      have e : j = i := by omega
      subst e
      (repeat (first | refine go ?_ | refine goR ?_ | refine goS (fun yc hyc => ?_) | refine goL (fun _ _ => inferInstance) ?_ | with_reducible intro _ | refine goO (by first | omega | (simp only [List.length_cons, List.length_nil]; omega)) ?_ | fail))
      exact loop_w (j + 1) ⟨At.to (.int .i64 ((j : Int) + 1)) (by simp), hlt, hnd.2 ⟨hz, hz2⟩⟩ (by omega)
  · haveI : BV (decide ((i : Int) < (n : Int))) false := ⟨by simpa using hlt⟩
    rw [take_all (by omega)] at hz
    have e : ptD xs = true := by unfold ptD; simpa using hz
    rw [e] at hK
    (repeat (first | refine go ?_ | refine goR ?_ | refine goS (fun yc hyc => ?_) | refine goL (fun _ _ => inferInstance) ?_ | with_reducible intro _ | refine goO (by first | omega | (simp only [List.length_cons, List.length_nil]; omega)) ?_ | fail))
    exact backN (σ0 := σ) Try.results14 (fun σ' _ _ => hK σ' inferInstance)⟩
end
end Go.Proofs.Ytchdbmnikaacdaa

/- strings.Builder, by contract: a block of the call's own, and the row of its bytes.  -/
set_option linter.all false
set_option maxHeartbeats 40000000
set_option synthInstance.maxHeartbeats 2000000
set_option synthInstance.maxSize 100000
namespace Go.Proofs.Ytchdbmnikaacdaa
open Go Go.RowKit
instance BV.noneT {α : Type} : BV (Option.isNone (none : Option α)) true := ⟨rfl⟩
instance BV.noneF {α : Type} {a : α} : BV (Option.isNone (some a)) false := ⟨rfl⟩
/-- how long a text is -/
class LenX (s : Bs) (m : outParam Nat) : Prop where
  eq : s.length = m
instance (priority := low) LenX.self {s : Bs} : LenX s s.length := ⟨rfl⟩
instance lenX_leB {w n : Nat} : LenX (leB w n) w := ⟨leB_len w n⟩
instance (priority := high) lenX_le1 {n : Nat} : LenX (leB 1 n) 1 := ⟨leB_len 1 n⟩
instance (priority := high) lenX_le2 {n : Nat} : LenX (leB 2 n) 2 := ⟨leB_len 2 n⟩
instance (priority := high) lenX_le4 {n : Nat} : LenX (leB 4 n) 4 := ⟨leB_len 4 n⟩
instance (priority := high) lenX_le8 {n : Nat} : LenX (leB 8 n) 8 := ⟨leB_len 8 n⟩
instance LenX.key {k : Key} : LenX k.toList 32 := ⟨by simp⟩
end Go.Proofs.Ytchdbmnikaacdaa

/- tx.Encode, by contract.  (Printed by gen_te.py.) -/
set_option linter.all false
set_option maxHeartbeats 40000000
set_option synthInstance.maxHeartbeats 2000000
set_option synthInstance.maxSize 100000
namespace Go.Proofs.Ytchdbmnikaacdaa
open Go Go.RowKit
/-- what is written of each thing, by its place -/
def encL {α : Type} (e : Nat → α → Bs) : Nat → List α → Bs
  | _, [] => []
  | i, x :: l => e i x ++ encL e (i + 1) l
theorem encL_snoc {α : Type} (e : Nat → α → Bs) : ∀ (l : List α) (i : Nat) (x : α), encL e i (l ++ [x]) = encL e i l ++ e (i + l.length) x
  | [], i, x => by simp [encL]
  | y :: l, i, x => by
    rw [List.cons_append, encL, encL, encL_snoc e l (i + 1) x, List.append_assoc]
    congr 3
    simp; omega
theorem encL_flat {α : Type} (e : Nat → α → Bs) (g : α → Bs) (h : ∀ i x, e i x = g x) : ∀ (l : List α) (i : Nat), encL e i l = l.flatMap g
  | [], _ => rfl
  | x :: l, i => by rw [encL, encL_flat e g h l (i + 1), h]; rfl
theorem encL_len {α : Type} (e : Nat → α → Bs) (m : Nat) (h : ∀ i x, (e i x).length ≤ m) : ∀ (l : List α) (i : Nat), (encL e i l).length ≤ m * l.length
  | [], _ => Nat.zero_le _
  | x :: l, i => by
    have := encL_len e m h l (i + 1)
    have := h i x
    rw [encL, List.length_append, List.length_cons, Nat.mul_add]; omega
def encPt (p : Pt) : Bs := p.tx.toList ++ leB 4 p.idx.toNat
def encOt (x : Ot) : Bs := leB 8 x.val.toUInt64.toNat ++ x.lock.toList
def encM (t : Tx) : Bs := leB 4 t.exp.toNat ++ leB 1 t.ins.n ++ t.ins.l.flatMap encPt ++ leB 1 t.outs.n ++ t.outs.l.flatMap encOt ++ leB 1 t.nulls.n ++ (if t.nulls.n = 0 then [] else t.anchor.toList) ++ t.nulls.l.flatMap (fun k => k.toList) ++ leB 1 t.notes.n ++ t.notes.l.flatMap (fun k => k.toList) ++ leB 8 t.bal.toUInt64.toNat
/-! the greatest of numbers -/
def maxL : List Nat → Nat
  | [] => 0
  | a :: l => l.foldl max a
theorem run_max2_nats {P : Program} {w : World} (k : IntKind) : ∀ (l : List Nat) (a : Nat), ((l.map fun (n : Nat) => Value.int k (n : Int)).foldlM Builtin.max2 (.int k (a : Int))).run P w = .ok (.int k ((l.foldl max a : Nat) : Int)) w
  | [], a => by simp
  | n :: l, a => by
    have h1 : (Builtin.max2 (.int k (a : Int)) (.int k (n : Int))).run P w = .ok (.int k ((max a n : Nat) : Int)) w := by
      simp only [Builtin.max2]
      by_cases h : a < n
      · have : ((n : Int) > (a : Int)) := by omega
        simp [this, Nat.max_eq_right (Nat.le_of_lt h)]
      · have : ¬ ((n : Int) > (a : Int)) := by omega
        simp [this, Nat.max_eq_left (Nat.le_of_not_lt h)]
    simp only [List.map_cons, List.foldlM_cons, Sem.run_bind, h1, Result.andThen_ok, List.foldl_cons]
    exact run_max2_nats k l (max a n)
instance StepV.max_nats {P : Program} {σ : St} {f : Fr} {ty : TypeId} {xs : List Operand} {ts : Array TypeId} {vs : List Value} {k : IntKind} {ns : List Nat} [e : EvL f xs vs] [h : NatsV vs k ns] : StepV P (.call { callee := .builtin .max, args := xs.toArray, argTypes := ts }) ty f σ (.int k ((maxL ns : Nat) : Int)) := ⟨by
  have h1 := h.eq
  have key : (Builtin.max_ ts ty vs.toArray).run P σ.w = .ok (.int k ((maxL ns : Nat) : Int)) σ.w := by
    unfold Builtin.max_
    have hne := h.ne
    match ns, h1, hne with
    | [], _, hne => exact absurd rfl hne
    | n :: l, h1, _ => subst h1; exact run_max2_nats k l n
  simp [execOp, resolve, e.eq, invoke, builtin, key]⟩
theorem encPt_len (p : Pt) : (encPt p).length = 36 := by simp [encPt, leB_len]
theorem encOt_len (p : Ot) : (encOt p).length = 40 := by simp [encOt, leB_len]
theorem key_len (k : Key) : k.toList.length = 32 := by simp
/-- the error of a transaction's bytes -/
def encE (t : Tx) : Int := if 40 < maxL [t.ins.n, t.outs.n, t.nulls.n, t.notes.n] then 51 else if t.nulls.n = 0 ∧ t.anchor ≠ key0 then 1 else 0
def encS (t : Tx) : Bs := if encE t = 0 then encM t else []
theorem toU64 (x : Int64) : IntKind.u64.wrap x.toInt = (x.toUInt64.toNat : Int) := by
  rw [IntKind.wrap_u64]
  have h1 : x.toInt = (x.toBitVec).toInt := rfl
  have h2 : (x.toUInt64.toNat : Int) = ((x.toBitVec).toNat : Int) := rfl
  rw [h1, h2, BitVec.toInt_eq_toNat_bmod]
  have := x.toBitVec.isLt
  rw [show (2 ^ 64 : Nat) = 18446744073709551616 from rfl] at *
  simp only [Int.bmod]
  split <;> omega
instance Fits.u32u64 {x : UInt32} : Fits .u64 (x.toNat : Int) := Fits.u64 (by omega) (by have := x.toNat_lt; omega)
section
variable {P : Program} {f : Fr} {σ : St} {ty : TypeId}
instance (priority := 500) StepV.conv_i64u64 {src dst : TypeId} {d : TypeDesc} {a : Int} {v : Int64} {x : Operand} [h : Ev f x (.int .i64 a)] [g : I64 a v] [us : U P src d] [ud : U P dst (.int .u64)] : StepV P (.convert src dst x) ty f σ (.int .u64 (v.toUInt64.toNat : Int)) := ⟨by
  have e := g.eq; subst e
  simp [execOp, h.eq, conv_run us ud, toU64]⟩
end
def enc4 (t : Tx) (fs : Bool) (k : Key) : Bs := if fs then t.anchor.toList ++ k.toList else k.toList
def len4 (fs : Bool) : Nat := if fs then 64 else 32
end Go.Proofs.Ytchdbmnikaacdaa

/- tx.Encode, and the reference's: the bytes of a transaction.  -/
set_option linter.all false
set_option maxHeartbeats 40000000
set_option synthInstance.maxHeartbeats 2000000
set_option synthInstance.maxSize 100000
namespace Go.Proofs.Ytchdbmnikaacdaa
open Go Go.RowKit
theorem maxL4 (a b c d : Nat) : maxL [a, b, c, d] = max (max (max a b) c) d := rfl
theorem encE_many {t : Tx} (h : 40 < maxL [t.ins.n, t.outs.n, t.nulls.n, t.notes.n]) : encE t = 51 := by unfold encE; rw [if_pos h]
theorem encE_arg {t : Tx} (h : ¬ 40 < maxL [t.ins.n, t.outs.n, t.nulls.n, t.notes.n]) (h2 : t.nulls.n = 0 ∧ t.anchor ≠ key0) : encE t = 1 := by unfold encE; rw [if_neg h, if_pos h2]
theorem encE_ok {t : Tx} (h : ¬ 40 < maxL [t.ins.n, t.outs.n, t.nulls.n, t.notes.n]) (h2 : ¬ (t.nulls.n = 0 ∧ t.anchor ≠ key0)) : encE t = 0 := by unfold encE; rw [if_neg h, if_neg h2]
theorem encL4 (t : Tx) : ∀ (l : List Key), encL (fun i k => enc4 t (decide (i = 0)) k) 0 l = (if l.length = 0 then [] else t.anchor.toList) ++ l.flatMap (fun k => k.toList)
  | [] => rfl
  | x :: l => by
    have h : ∀ (l : List Key) (i : Nat), encL (fun i k => enc4 t (decide (i = 0)) k) (i + 1) l = l.flatMap (fun k => k.toList) := by
      intro l
      induction l with
      | nil => intro i; rfl
      | cons y l ih =>
        intro i
        rw [encL, ih (i + 1)]
        have e : decide (i + 1 = 0) = false := by simp
        simp only [e, List.flatMap_cons]
        rfl
    rw [encL, h l 0]
    simp [enc4]
section
variable {σ : St} {v1 : Value} {t : Tx}
instance PosN.add_ {n k : Nat} [h : EqB (Nat.ble k 0) false] : PosN (n + k) := ⟨by
  have : ¬ k ≤ 0 := fun e => by have := h.eq; rw [Nat.ble_eq_true_of_le e] at this; cases this
  omega⟩
end
end Go.Proofs.Ytchdbmnikaacdaa

/- The reference's Encode: the bytes of a transaction.  (Printed by gen_tg.py.) -/
set_option linter.all false
set_option maxHeartbeats 40000000
set_option synthInstance.maxHeartbeats 2000000
set_option synthInstance.maxSize 100000
namespace Go.Proofs.Ytchdbmnikaacdaa
open Go Go.RowKit
theorem flat_take {α : Type} [Inhabited α] (g : α → Bs) {xs : List α} {i : Nat} (h : i < xs.length) : (xs.take (i + 1)).flatMap g = (xs.take i).flatMap g ++ g xs[i]! := by
  rw [take_snoc h, List.flatMap_append]; simp
theorem flat_len {α : Type} (g : α → Bs) (m : Nat) (h : ∀ x, (g x).length ≤ m) (xs : List α) : (xs.flatMap g).length ≤ m * xs.length := by
  induction xs with
  | nil => simp
  | cons x l ih =>
    have := h x
    simp only [List.flatMap_cons, List.length_append, List.length_cons, Nat.mul_add]; omega
section
variable {σ : St} {v1 : Value} {t : Tx}
instance rule_ref_Encode [h : EncV σ txE v1 t] {e : Int} [q : Is (encE t) e] : CallRule Try.prog 11 [v1] σ (fun K _ => ∀ σ', Nx σ σ' .no → K (.tuple #[sv (encS t), .int .i64 e]) σ') := ⟨fun K E hK => by
  have e1 : v1 = .agg (cats [#[.int .u32 (t.exp.toNat : Int)], #[.slice t.ins.A t.ins.n t.ins.c], #[.slice t.outs.A t.outs.n t.outs.c], kc t.anchor, #[.slice t.nulls.A t.nulls.n t.nulls.c], #[.slice t.notes.A t.notes.n t.notes.c], #[.int .i64 t.bal.toInt]]) := h.eq
  subst e1
  haveI : OkE σ txE t := ⟨h.ok⟩
  have hq := q.eq; subst hq
  by_cases hm : 40 < maxL [t.ins.n, t.outs.n, t.nulls.n, t.notes.n]
  · have e2 := encE_many hm
    have e3 : encS t = [] := by unfold encS; rw [e2]; rfl
    rw [e2, e3] at hK
    rw [maxL4] at hm
    by_cases h0 : 40 < t.ins.n
    · skip
      haveI : BV (decide ((t.ins.n : Int) > 40)) true := ⟨by simp; omega⟩
      haveI : BV (decide (40 < (t.ins.n : Int))) true := ⟨by simp; omega⟩
      refine calls_enter Try.func11 rfl _ Try.ntmps11 rfl ?_
      (repeat (first | refine go ?_ | refine goR ?_ | refine goS (fun yc hyc => ?_) | refine goL (fun _ _ => inferInstance) ?_ | with_reducible intro _ | refine goO (by first | omega | (simp only [List.length_cons, List.length_nil]; omega)) ?_ | fail))
      exact backN (σ0 := σ) Try.results11 (fun σ' _ _ => hK σ' inferInstance)
    haveI : BV (decide ((t.ins.n : Int) > 40)) false := ⟨by simp; omega⟩
    haveI : BV (decide (40 < (t.ins.n : Int))) false := ⟨by simp; omega⟩
    by_cases h1 : 40 < t.outs.n
    · skip
      haveI : BV (decide ((t.outs.n : Int) > 40)) true := ⟨by simp; omega⟩
      haveI : BV (decide (40 < (t.outs.n : Int))) true := ⟨by simp; omega⟩
      refine calls_enter Try.func11 rfl _ Try.ntmps11 rfl ?_
      (repeat (first | refine go ?_ | refine goR ?_ | refine goS (fun yc hyc => ?_) | refine goL (fun _ _ => inferInstance) ?_ | with_reducible intro _ | refine goO (by first | omega | (simp only [List.length_cons, List.length_nil]; omega)) ?_ | fail))
      exact backN (σ0 := σ) Try.results11 (fun σ' _ _ => hK σ' inferInstance)
    haveI : BV (decide ((t.outs.n : Int) > 40)) false := ⟨by simp; omega⟩
    haveI : BV (decide (40 < (t.outs.n : Int))) false := ⟨by simp; omega⟩
    by_cases h2 : 40 < t.nulls.n
    · skip
      haveI : BV (decide ((t.nulls.n : Int) > 40)) true := ⟨by simp; omega⟩
      haveI : BV (decide (40 < (t.nulls.n : Int))) true := ⟨by simp; omega⟩
      refine calls_enter Try.func11 rfl _ Try.ntmps11 rfl ?_
      (repeat (first | refine go ?_ | refine goR ?_ | refine goS (fun yc hyc => ?_) | refine goL (fun _ _ => inferInstance) ?_ | with_reducible intro _ | refine goO (by first | omega | (simp only [List.length_cons, List.length_nil]; omega)) ?_ | fail))
      exact backN (σ0 := σ) Try.results11 (fun σ' _ _ => hK σ' inferInstance)
    haveI : BV (decide ((t.nulls.n : Int) > 40)) false := ⟨by simp; omega⟩
    haveI : BV (decide (40 < (t.nulls.n : Int))) false := ⟨by simp; omega⟩
    haveI : BV (decide ((t.notes.n : Int) > 40)) true := ⟨by simp; omega⟩
    haveI : BV (decide (40 < (t.notes.n : Int))) true := ⟨by simp; omega⟩
    refine calls_enter Try.func11 rfl _ Try.ntmps11 rfl ?_
    (repeat (first | refine go ?_ | refine goR ?_ | refine goS (fun yc hyc => ?_) | refine goL (fun _ _ => inferInstance) ?_ | with_reducible intro _ | refine goO (by first | omega | (simp only [List.length_cons, List.length_nil]; omega)) ?_ | fail))
    exact backN (σ0 := σ) Try.results11 (fun σ' _ _ => hK σ' inferInstance)
  · have hm4 := hm
    rw [maxL4] at hm4
    haveI : BV (decide ((t.ins.n : Int) > 40)) false := ⟨by simp; omega⟩
    haveI : BV (decide (40 < (t.ins.n : Int))) false := ⟨by simp; omega⟩
    haveI : BV (decide ((t.outs.n : Int) > 40)) false := ⟨by simp; omega⟩
    haveI : BV (decide (40 < (t.outs.n : Int))) false := ⟨by simp; omega⟩
    haveI : BV (decide ((t.nulls.n : Int) > 40)) false := ⟨by simp; omega⟩
    haveI : BV (decide (40 < (t.nulls.n : Int))) false := ⟨by simp; omega⟩
    haveI : BV (decide ((t.notes.n : Int) > 40)) false := ⟨by simp; omega⟩
    haveI : BV (decide (40 < (t.notes.n : Int))) false := ⟨by simp; omega⟩
    by_cases ha : t.nulls.n = 0 ∧ t.anchor ≠ key0
    · haveI : BV (decide ((t.nulls.n : Int) = 0)) true := ⟨by simp; omega⟩
      haveI : BV (decide (t.anchor = key0)) false := ⟨by simpa using ha.2⟩
      have e2 := encE_arg hm ha
      have e3 : encS t = [] := by unfold encS; rw [e2]; rfl
      rw [e2, e3] at hK
      refine calls_enter Try.func11 rfl _ Try.ntmps11 rfl ?_
      (repeat (first | refine go ?_ | refine goR ?_ | refine goS (fun yc hyc => ?_) | refine goL (fun _ _ => inferInstance) ?_ | with_reducible intro _ | refine goO (by first | omega | (simp only [List.length_cons, List.length_nil]; omega)) ?_ | fail))
      exact backN (σ0 := σ) Try.results11 (fun σ' _ _ => hK σ' inferInstance)
    · have e2 := encE_ok hm ha
      have e3 : encS t = encM t := by unfold encS; rw [e2]; rfl
      rw [e2, e3] at hK
      have hl1 := (inferInstance : SL σ t.ins.A t.ins.n t.ins.c ptE t.ins.l).len
      have hl2 := (inferInstance : SL σ t.outs.A t.outs.n t.outs.c otE t.outs.l).len
      have hl3 := (inferInstance : SL σ t.nulls.A t.nulls.n t.nulls.c keyE t.nulls.l).len
      have hl4 := (inferInstance : SL σ t.notes.A t.notes.n t.notes.c keyE t.notes.l).len
      have hK2 : ∀ (l : Bs) σ', l = encM t → Nx σ σ' .no → K (.tuple #[sv l, .int .i64 0]) σ' := by
        rintro l σ' rfl hn
        exact hK σ' hn
      haveI : Fits .u64 (t.ins.n : Int) := Fits.u64 (by omega) (by omega)
      haveI : Fits .u64 (t.outs.n : Int) := Fits.u64 (by omega) (by omega)
      haveI : Fits .u64 (t.nulls.n : Int) := Fits.u64 (by omega) (by omega)
      haveI : Fits .u64 (t.notes.n : Int) := Fits.u64 (by omega) (by omega)
      by_cases h0 : t.nulls.n = 0
      · skip
        haveI : BV (decide ((t.nulls.n : Int) > 0)) false := ⟨by simp; omega⟩
        haveI : BV (decide (0 < (t.nulls.n : Int))) false := ⟨by simp; omega⟩
        haveI : BV (decide ((t.nulls.n : Int) = 0)) true := ⟨by simp; omega⟩
        haveI : BV (decide (t.anchor = key0)) true := ⟨by
          by_cases e : t.anchor = key0
          · simpa using e
          · exact absurd ⟨h0, e⟩ ha⟩
        refine calls_enter Try.func11 rfl _ Try.ntmps11 rfl ?_
        (repeat (first | refine go ?_ | refine goR ?_ | refine goS (fun yc hyc => ?_) | refine goL (fun _ _ => inferInstance) ?_ | with_reducible intro _ | refine goO (by first | omega | (simp only [List.length_cons, List.length_nil]; omega)) ?_ | fail))
        refine WC.draw [] (.l 0 (.l 1 (.l 2 (.l 4 (.l 5 (.l 6 (.l 7 (.h 3 (.h 8 (.p 9 (.p 10 .nil))))))))))) mixed (by decide +kernel) ?_
        (repeat' (first | refine go ?_ | refine goR ?_ | refine goS (fun yc hyc => ?_) | refine goL (fun _ _ => inferInstance) ?_ | refine goF ?_ ?_ | refine goG ?_ ?_ ?_ | with_reducible intro _ | refine goO (by first | omega | (simp only [List.length_cons, List.length_nil]; omega)) ?_ | fail))
        all_goals skip
        refine WC.loopW 75557861474114509733936 .no (fun (i : Nat) f s => At f 5 (.int .i64 (i : Int)) ∧ i ≤ t.ins.n ∧ ∃ l, At f 4 (sv l) ∧ l = (leB 4 t.exp.toNat ++ leB 1 t.ins.n) ++ (t.ins.l.take i).flatMap encPt ∧ l.length ≤ 2000) (fun i => t.ins.n - i) 0
          ⟨At.to (.int .i64 0) rfl, Nat.zero_le _, _, inferInstance, by simp, by simp only [List.length_append, leB_len, List.length_nil, key_len]; omega⟩ ?_
        rintro i f0 s0 ha0 hs0 ⟨ai, hi, l0, a4, el0, hll0⟩
        haveI : LenLe l0 2000 := ⟨hll0⟩
        by_cases hlt : i < t.ins.n
        · haveI : BV (decide ((i : Int) < (t.ins.n : Int))) true := ⟨by simpa using hlt⟩
          haveI : IdxLt i t.ins.n := ⟨hlt⟩
          haveI : Fits .i64 ((i : Int) + 1) := Fits.i64 (by omega) (by omega)
          have hst : (t.ins.l.take (i + 1)).flatMap encPt = (t.ins.l.take i).flatMap encPt ++ encPt t.ins.l[i]! := flat_take _ (by omega)
          have hfl := flat_len encPt 36 (fun x => by simp only [encPt_len]; omega) (t.ins.l.take (i + 1))
          rw [List.length_take] at hfl
          have hbl := (show (leB 4 t.exp.toNat ++ leB 1 t.ins.n).length ≤ 5 from by simp [leB_len])
          (repeat (first | refine go ?_ | refine goR ?_ | refine goS (fun yc hyc => ?_) | refine goL (fun _ _ => inferInstance) ?_ | with_reducible intro _ | refine goO (by first | omega | (simp only [List.length_cons, List.length_nil]; omega)) ?_ | fail))
          refine WC.draw [] (.p 0 (.l 1 (.l 2 (.p 3 (.l 4 (.l 5 (.l 6 (.l 9 (.l 10 (.p 11 (.l 12 (.l 13 (.l 14 (.l 15 (.h 7 (.p 8 (.h 16 (.p 17 (.p 18 .nil))))))))))))))))))) mixed (by decide +kernel) ?_
          (repeat' (first | refine go ?_ | refine goR ?_ | refine goS (fun yc hyc => ?_) | refine goL (fun _ _ => inferInstance) ?_ | refine goF ?_ ?_ | refine goG ?_ ?_ ?_ | with_reducible intro _ | refine goO (by first | omega | (simp only [List.length_cons, List.length_nil]; omega)) ?_ | fail))
          all_goals refine loop_w (i + 1) ⟨At.to (.int .i64 ((i : Int) + 1)) (by simp), hlt, _, inferInstance, by rw [hst, el0]; simp only [encPt, List.append_assoc], ?_⟩ (by omega)
          have e : ((leB 4 t.exp.toNat ++ leB 1 t.ins.n) ++ (t.ins.l.take (i + 1)).flatMap encPt).length ≤ 2000 := by simp only [List.length_append] at hbl ⊢; omega
          rw [hst] at e
          rw [el0]
          simpa only [encPt, List.append_assoc] using e
        · haveI : BV (decide ((i : Int) < (t.ins.n : Int))) false := ⟨by simpa using hlt⟩
          rw [take_all (by omega)] at el0
          (repeat (first | refine go ?_ | refine goR ?_ | refine goS (fun yc hyc => ?_) | refine goL (fun _ _ => inferInstance) ?_ | with_reducible intro _ | refine goO (by first | omega | (simp only [List.length_cons, List.length_nil]; omega)) ?_ | fail))
          refine WC.loopW 324518543987020169866122622926928 .no (fun (i : Nat) f s => At f 6 (.int .i64 (i : Int)) ∧ i ≤ t.outs.n ∧ ∃ l, At f 4 (sv l) ∧ l = (l0 ++ leB 1 t.outs.n) ++ (t.outs.l.take i).flatMap encOt ∧ l.length ≤ 4000) (fun i => t.outs.n - i) 0
            ⟨At.to (.int .i64 0) rfl, Nat.zero_le _, _, inferInstance, by simp, by simp only [List.length_append, leB_len, List.length_nil, key_len]; omega⟩ ?_
          rintro i f1 s1 ha1 hs1 ⟨ai, hi, l1, a4, el1, hll1⟩
          haveI : LenLe l1 4000 := ⟨hll1⟩
          by_cases hlt : i < t.outs.n
          · haveI : BV (decide ((i : Int) < (t.outs.n : Int))) true := ⟨by simpa using hlt⟩
            haveI : IdxLt i t.outs.n := ⟨hlt⟩
            haveI : Fits .i64 ((i : Int) + 1) := Fits.i64 (by omega) (by omega)
            have hst : (t.outs.l.take (i + 1)).flatMap encOt = (t.outs.l.take i).flatMap encOt ++ encOt t.outs.l[i]! := flat_take _ (by omega)
            have hfl := flat_len encOt 40 (fun x => by simp only [encOt_len]; omega) (t.outs.l.take (i + 1))
            rw [List.length_take] at hfl
            have hbl := (show (l0 ++ leB 1 t.outs.n).length ≤ 2001 from by simp only [List.length_append, leB_len]; omega)
            (repeat (first | refine go ?_ | refine goR ?_ | refine goS (fun yc hyc => ?_) | refine goL (fun _ _ => inferInstance) ?_ | with_reducible intro _ | refine goO (by first | omega | (simp only [List.length_cons, List.length_nil]; omega)) ?_ | fail))
            refine WC.draw [] (.p 0 (.l 1 (.l 2 (.p 3 (.l 4 (.l 5 (.l 6 (.l 7 (.l 10 (.l 11 (.p 12 (.l 13 (.l 14 (.l 15 (.h 8 (.p 9 (.h 16 (.p 17 (.p 18 .nil))))))))))))))))))) mixed (by decide +kernel) ?_
            (repeat' (first | refine go ?_ | refine goR ?_ | refine goS (fun yc hyc => ?_) | refine goL (fun _ _ => inferInstance) ?_ | refine goF ?_ ?_ | refine goG ?_ ?_ ?_ | with_reducible intro _ | refine goO (by first | omega | (simp only [List.length_cons, List.length_nil]; omega)) ?_ | fail))
            all_goals refine loop_w (i + 1) ⟨At.to (.int .i64 ((i : Int) + 1)) (by simp), hlt, _, inferInstance, by rw [hst, el1]; simp only [encOt, List.append_assoc], ?_⟩ (by omega)
            have e : ((l0 ++ leB 1 t.outs.n) ++ (t.outs.l.take (i + 1)).flatMap encOt).length ≤ 4000 := by simp only [List.length_append] at hbl ⊢; omega
            rw [hst] at e
            rw [el1]
            simpa only [encOt, List.append_assoc] using e
          · haveI : BV (decide ((i : Int) < (t.outs.n : Int))) false := ⟨by simpa using hlt⟩
            rw [take_all (by omega)] at el1
            have hb2 : (l1 ++ leB 1 t.nulls.n).length ≤ 4001 := by simp only [List.length_append, leB_len]; omega
            (repeat (first | refine go ?_ | refine goR ?_ | refine goS (fun yc hyc => ?_) | refine goL (fun _ _ => inferInstance) ?_ | with_reducible intro _ | refine goO (by first | omega | (simp only [List.length_cons, List.length_nil]; omega)) ?_ | fail))
            refine WC.loopW 696877019806149414519024735107296811548816 .no (fun (i : Nat) f s => At f 7 (.int .i64 (i : Int)) ∧ i ≤ t.nulls.n ∧ ∃ l, At f 4 (sv l) ∧ l = (l1 ++ leB 1 t.nulls.n) ++ (t.nulls.l.take i).flatMap (fun k : Key => k.toList) ∧ l.length ≤ 6000) (fun i => t.nulls.n - i) 0
              ⟨At.to (.int .i64 0) rfl, Nat.zero_le _, _, inferInstance, by simp, by simp only [List.length_append, leB_len, List.length_nil, key_len]; omega⟩ ?_
            rintro i f2 s2 ha2 hs2 ⟨ai, hi, l2, a4, el2, hll2⟩
            haveI : LenLe l2 6000 := ⟨hll2⟩
            by_cases hlt : i < t.nulls.n
            · exact absurd hlt (by omega)
            · haveI : BV (decide ((i : Int) < (t.nulls.n : Int))) false := ⟨by simpa using hlt⟩
              rw [take_all (by omega)] at el2
              (repeat (first | refine go ?_ | refine goR ?_ | refine goS (fun yc hyc => ?_) | refine goL (fun _ _ => inferInstance) ?_ | with_reducible intro _ | refine goO (by first | omega | (simp only [List.length_cons, List.length_nil]; omega)) ?_ | fail))
              have hb3 : (l2 ++ leB 1 t.notes.n).length ≤ 6001 := by simp only [List.length_append, leB_len]; omega
              refine WC.loopW 2922914071681011713914803522559475445865841164560 .no (fun (i : Nat) f s => At f 8 (.int .i64 (i : Int)) ∧ i ≤ t.notes.n ∧ ∃ l, At f 4 (sv l) ∧ l = (l2 ++ leB 1 t.notes.n) ++ (t.notes.l.take i).flatMap (fun k : Key => k.toList) ∧ l.length ≤ 8000) (fun i => t.notes.n - i) 0
                ⟨At.to (.int .i64 0) rfl, Nat.zero_le _, _, inferInstance, by simp, by simp only [List.length_append, leB_len, List.length_nil, key_len]; omega⟩ ?_
              rintro i f3 s3 ha3 hs3 ⟨ai, hi, l3, a4, el3, hll3⟩
              haveI : LenLe l3 8000 := ⟨hll3⟩
              by_cases hlt : i < t.notes.n
              · haveI : BV (decide ((i : Int) < (t.notes.n : Int))) true := ⟨by simpa using hlt⟩
                haveI : IdxLt i t.notes.n := ⟨hlt⟩
                haveI : Fits .i64 ((i : Int) + 1) := Fits.i64 (by omega) (by omega)
                have hst : (t.notes.l.take (i + 1)).flatMap (fun k : Key => k.toList) = (t.notes.l.take i).flatMap (fun k : Key => k.toList) ++ (fun k : Key => k.toList) t.notes.l[i]! := flat_take _ (by omega)
                have hfl := flat_len (fun k : Key => k.toList) 32 (fun x => by simp) (t.notes.l.take (i + 1))
                rw [List.length_take] at hfl
                have hbl := hb3
                (repeat (first | refine go ?_ | refine goR ?_ | refine goS (fun yc hyc => ?_) | refine goL (fun _ _ => inferInstance) ?_ | with_reducible intro _ | refine goO (by first | omega | (simp only [List.length_cons, List.length_nil]; omega)) ?_ | fail))
                refine loop_w (i + 1) ⟨At.to (.int .i64 ((i : Int) + 1)) (by simp), hlt, _, inferInstance, by rw [hst, el3]; simp only [List.append_assoc], ?_⟩ (by omega)
                have e : ((l2 ++ leB 1 t.notes.n) ++ (t.notes.l.take (i + 1)).flatMap (fun k : Key => k.toList)).length ≤ 8000 := by simp only [List.length_append] at hbl ⊢; omega
                rw [hst] at e
                rw [el3]
                simpa only [List.append_assoc] using e
              · haveI : BV (decide ((i : Int) < (t.notes.n : Int))) false := ⟨by simpa using hlt⟩
                rw [take_all (by omega)] at el3
                (repeat (first | refine go ?_ | refine goR ?_ | refine goS (fun yc hyc => ?_) | refine goL (fun _ _ => inferInstance) ?_ | with_reducible intro _ | refine goO (by first | omega | (simp only [List.length_cons, List.length_nil]; omega)) ?_ | fail))
                exact backN (σ0 := σ) Try.results11 (fun σ' _ _ => hK2 _ σ' (by rw [el3, el2, el1, el0]; simp only [encM, h0, if_true, if_false, List.append_assoc, List.nil_append]) inferInstance)
      · skip
        haveI : BV (decide ((t.nulls.n : Int) > 0)) true := ⟨by simp; omega⟩
        haveI : BV (decide (0 < (t.nulls.n : Int))) true := ⟨by simp; omega⟩
        haveI : BV (decide ((t.nulls.n : Int) = 0)) false := ⟨by simp; omega⟩
        refine calls_enter Try.func11 rfl _ Try.ntmps11 rfl ?_
        (repeat (first | refine go ?_ | refine goR ?_ | refine goS (fun yc hyc => ?_) | refine goL (fun _ _ => inferInstance) ?_ | with_reducible intro _ | refine goO (by first | omega | (simp only [List.length_cons, List.length_nil]; omega)) ?_ | fail))
        refine WC.draw [] (.l 0 (.l 1 (.l 2 (.l 4 (.l 5 (.l 6 (.l 7 (.h 3 (.h 8 (.p 9 (.p 10 .nil))))))))))) mixed (by decide +kernel) ?_
        (repeat' (first | refine go ?_ | refine goR ?_ | refine goS (fun yc hyc => ?_) | refine goL (fun _ _ => inferInstance) ?_ | refine goF ?_ ?_ | refine goG ?_ ?_ ?_ | with_reducible intro _ | refine goO (by first | omega | (simp only [List.length_cons, List.length_nil]; omega)) ?_ | fail))
        all_goals skip
        refine WC.loopW 75557861474114509733936 .no (fun (i : Nat) f s => At f 5 (.int .i64 (i : Int)) ∧ i ≤ t.ins.n ∧ ∃ l, At f 4 (sv l) ∧ l = (leB 4 t.exp.toNat ++ leB 1 t.ins.n) ++ (t.ins.l.take i).flatMap encPt ∧ l.length ≤ 2000) (fun i => t.ins.n - i) 0
          ⟨At.to (.int .i64 0) rfl, Nat.zero_le _, _, inferInstance, by simp, by simp only [List.length_append, leB_len, List.length_nil, key_len]; omega⟩ ?_
        rintro i f0 s0 ha0 hs0 ⟨ai, hi, l0, a4, el0, hll0⟩
        haveI : LenLe l0 2000 := ⟨hll0⟩
        by_cases hlt : i < t.ins.n
        · haveI : BV (decide ((i : Int) < (t.ins.n : Int))) true := ⟨by simpa using hlt⟩
          haveI : IdxLt i t.ins.n := ⟨hlt⟩
          haveI : Fits .i64 ((i : Int) + 1) := Fits.i64 (by omega) (by omega)
          have hst : (t.ins.l.take (i + 1)).flatMap encPt = (t.ins.l.take i).flatMap encPt ++ encPt t.ins.l[i]! := flat_take _ (by omega)
          have hfl := flat_len encPt 36 (fun x => by simp only [encPt_len]; omega) (t.ins.l.take (i + 1))
          rw [List.length_take] at hfl
          have hbl := (show (leB 4 t.exp.toNat ++ leB 1 t.ins.n).length ≤ 5 from by simp [leB_len])
          (repeat (first | refine go ?_ | refine goR ?_ | refine goS (fun yc hyc => ?_) | refine goL (fun _ _ => inferInstance) ?_ | with_reducible intro _ | refine goO (by first | omega | (simp only [List.length_cons, List.length_nil]; omega)) ?_ | fail))
          refine WC.draw [] (.p 0 (.l 1 (.l 2 (.p 3 (.l 4 (.l 5 (.l 6 (.l 9 (.l 10 (.p 11 (.l 12 (.l 13 (.l 14 (.l 15 (.h 7 (.p 8 (.h 16 (.p 17 (.p 18 .nil))))))))))))))))))) mixed (by decide +kernel) ?_
          (repeat' (first | refine go ?_ | refine goR ?_ | refine goS (fun yc hyc => ?_) | refine goL (fun _ _ => inferInstance) ?_ | refine goF ?_ ?_ | refine goG ?_ ?_ ?_ | with_reducible intro _ | refine goO (by first | omega | (simp only [List.length_cons, List.length_nil]; omega)) ?_ | fail))
          all_goals refine loop_w (i + 1) ⟨At.to (.int .i64 ((i : Int) + 1)) (by simp), hlt, _, inferInstance, by rw [hst, el0]; simp only [encPt, List.append_assoc], ?_⟩ (by omega)
          have e : ((leB 4 t.exp.toNat ++ leB 1 t.ins.n) ++ (t.ins.l.take (i + 1)).flatMap encPt).length ≤ 2000 := by simp only [List.length_append] at hbl ⊢; omega
          rw [hst] at e
          rw [el0]
          simpa only [encPt, List.append_assoc] using e
        · haveI : BV (decide ((i : Int) < (t.ins.n : Int))) false := ⟨by simpa using hlt⟩
          rw [take_all (by omega)] at el0
          (repeat (first | refine go ?_ | refine goR ?_ | refine goS (fun yc hyc => ?_) | refine goL (fun _ _ => inferInstance) ?_ | with_reducible intro _ | refine goO (by first | omega | (simp only [List.length_cons, List.length_nil]; omega)) ?_ | fail))
          refine WC.loopW 324518543987020169866122622926928 .no (fun (i : Nat) f s => At f 6 (.int .i64 (i : Int)) ∧ i ≤ t.outs.n ∧ ∃ l, At f 4 (sv l) ∧ l = (l0 ++ leB 1 t.outs.n) ++ (t.outs.l.take i).flatMap encOt ∧ l.length ≤ 4000) (fun i => t.outs.n - i) 0
            ⟨At.to (.int .i64 0) rfl, Nat.zero_le _, _, inferInstance, by simp, by simp only [List.length_append, leB_len, List.length_nil, key_len]; omega⟩ ?_
          rintro i f1 s1 ha1 hs1 ⟨ai, hi, l1, a4, el1, hll1⟩
          haveI : LenLe l1 4000 := ⟨hll1⟩
          by_cases hlt : i < t.outs.n
          · haveI : BV (decide ((i : Int) < (t.outs.n : Int))) true := ⟨by simpa using hlt⟩
            haveI : IdxLt i t.outs.n := ⟨hlt⟩
            haveI : Fits .i64 ((i : Int) + 1) := Fits.i64 (by omega) (by omega)
            have hst : (t.outs.l.take (i + 1)).flatMap encOt = (t.outs.l.take i).flatMap encOt ++ encOt t.outs.l[i]! := flat_take _ (by omega)
            have hfl := flat_len encOt 40 (fun x => by simp only [encOt_len]; omega) (t.outs.l.take (i + 1))
            rw [List.length_take] at hfl
            have hbl := (show (l0 ++ leB 1 t.outs.n).length ≤ 2001 from by simp only [List.length_append, leB_len]; omega)
            (repeat (first | refine go ?_ | refine goR ?_ | refine goS (fun yc hyc => ?_) | refine goL (fun _ _ => inferInstance) ?_ | with_reducible intro _ | refine goO (by first | omega | (simp only [List.length_cons, List.length_nil]; omega)) ?_ | fail))
            refine WC.draw [] (.p 0 (.l 1 (.l 2 (.p 3 (.l 4 (.l 5 (.l 6 (.l 7 (.l 10 (.l 11 (.p 12 (.l 13 (.l 14 (.l 15 (.h 8 (.p 9 (.h 16 (.p 17 (.p 18 .nil))))))))))))))))))) mixed (by decide +kernel) ?_
            (repeat' (first | refine go ?_ | refine goR ?_ | refine goS (fun yc hyc => ?_) | refine goL (fun _ _ => inferInstance) ?_ | refine goF ?_ ?_ | refine goG ?_ ?_ ?_ | with_reducible intro _ | refine goO (by first | omega | (simp only [List.length_cons, List.length_nil]; omega)) ?_ | fail))
            all_goals refine loop_w (i + 1) ⟨At.to (.int .i64 ((i : Int) + 1)) (by simp), hlt, _, inferInstance, by rw [hst, el1]; simp only [encOt, List.append_assoc], ?_⟩ (by omega)
            have e : ((l0 ++ leB 1 t.outs.n) ++ (t.outs.l.take (i + 1)).flatMap encOt).length ≤ 4000 := by simp only [List.length_append] at hbl ⊢; omega
            rw [hst] at e
            rw [el1]
            simpa only [encOt, List.append_assoc] using e
          · haveI : BV (decide ((i : Int) < (t.outs.n : Int))) false := ⟨by simpa using hlt⟩
            rw [take_all (by omega)] at el1
            have hb2 : (l1 ++ leB 1 t.nulls.n).length ≤ 4001 := by simp only [List.length_append, leB_len]; omega
            (repeat (first | refine go ?_ | refine goR ?_ | refine goS (fun yc hyc => ?_) | refine goL (fun _ _ => inferInstance) ?_ | with_reducible intro _ | refine goO (by first | omega | (simp only [List.length_cons, List.length_nil]; omega)) ?_ | fail))
            refine WC.loopW 696877019806149414519024735107296811548816 .no (fun (i : Nat) f s => At f 7 (.int .i64 (i : Int)) ∧ i ≤ t.nulls.n ∧ ∃ l, At f 4 (sv l) ∧ l = (l1 ++ leB 1 t.nulls.n ++ t.anchor.toList) ++ (t.nulls.l.take i).flatMap (fun k : Key => k.toList) ∧ l.length ≤ 6000) (fun i => t.nulls.n - i) 0
              ⟨At.to (.int .i64 0) rfl, Nat.zero_le _, _, inferInstance, by simp, by simp only [List.length_append, leB_len, List.length_nil, key_len]; omega⟩ ?_
            rintro i f2 s2 ha2 hs2 ⟨ai, hi, l2, a4, el2, hll2⟩
            haveI : LenLe l2 6000 := ⟨hll2⟩
            by_cases hlt : i < t.nulls.n
            · haveI : BV (decide ((i : Int) < (t.nulls.n : Int))) true := ⟨by simpa using hlt⟩
              haveI : IdxLt i t.nulls.n := ⟨hlt⟩
              haveI : Fits .i64 ((i : Int) + 1) := Fits.i64 (by omega) (by omega)
              have hst : (t.nulls.l.take (i + 1)).flatMap (fun k : Key => k.toList) = (t.nulls.l.take i).flatMap (fun k : Key => k.toList) ++ (fun k : Key => k.toList) t.nulls.l[i]! := flat_take _ (by omega)
              have hfl := flat_len (fun k : Key => k.toList) 32 (fun x => by simp) (t.nulls.l.take (i + 1))
              rw [List.length_take] at hfl
              have hbl := (show (l1 ++ leB 1 t.nulls.n ++ t.anchor.toList).length ≤ 4100 from by have := key_len t.anchor; rw [List.length_append]; omega)
              (repeat (first | refine go ?_ | refine goR ?_ | refine goS (fun yc hyc => ?_) | refine goL (fun _ _ => inferInstance) ?_ | with_reducible intro _ | refine goO (by first | omega | (simp only [List.length_cons, List.length_nil]; omega)) ?_ | fail))
              refine loop_w (i + 1) ⟨At.to (.int .i64 ((i : Int) + 1)) (by simp), hlt, _, inferInstance, by rw [hst, el2]; simp only [List.append_assoc], ?_⟩ (by omega)
              have e : ((l1 ++ leB 1 t.nulls.n ++ t.anchor.toList) ++ (t.nulls.l.take (i + 1)).flatMap (fun k : Key => k.toList)).length ≤ 6000 := by simp only [List.length_append] at hbl ⊢; omega
              rw [hst] at e
              rw [el2]
              simpa only [List.append_assoc] using e
            · haveI : BV (decide ((i : Int) < (t.nulls.n : Int))) false := ⟨by simpa using hlt⟩
              rw [take_all (by omega)] at el2
              (repeat (first | refine go ?_ | refine goR ?_ | refine goS (fun yc hyc => ?_) | refine goL (fun _ _ => inferInstance) ?_ | with_reducible intro _ | refine goO (by first | omega | (simp only [List.length_cons, List.length_nil]; omega)) ?_ | fail))
              have hb3 : (l2 ++ leB 1 t.notes.n).length ≤ 6001 := by simp only [List.length_append, leB_len]; omega
              refine WC.loopW 2922914071681011713914803522559475445865841164560 .no (fun (i : Nat) f s => At f 8 (.int .i64 (i : Int)) ∧ i ≤ t.notes.n ∧ ∃ l, At f 4 (sv l) ∧ l = (l2 ++ leB 1 t.notes.n) ++ (t.notes.l.take i).flatMap (fun k : Key => k.toList) ∧ l.length ≤ 8000) (fun i => t.notes.n - i) 0
                ⟨At.to (.int .i64 0) rfl, Nat.zero_le _, _, inferInstance, by simp, by simp only [List.length_append, leB_len, List.length_nil, key_len]; omega⟩ ?_
              rintro i f3 s3 ha3 hs3 ⟨ai, hi, l3, a4, el3, hll3⟩
              haveI : LenLe l3 8000 := ⟨hll3⟩
              by_cases hlt : i < t.notes.n
              · haveI : BV (decide ((i : Int) < (t.notes.n : Int))) true := ⟨by simpa using hlt⟩
                haveI : IdxLt i t.notes.n := ⟨hlt⟩
                haveI : Fits .i64 ((i : Int) + 1) := Fits.i64 (by omega) (by omega)
                have hst : (t.notes.l.take (i + 1)).flatMap (fun k : Key => k.toList) = (t.notes.l.take i).flatMap (fun k : Key => k.toList) ++ (fun k : Key => k.toList) t.notes.l[i]! := flat_take _ (by omega)
                have hfl := flat_len (fun k : Key => k.toList) 32 (fun x => by simp) (t.notes.l.take (i + 1))
                rw [List.length_take] at hfl
                have hbl := hb3
                (repeat (first | refine go ?_ | refine goR ?_ | refine goS (fun yc hyc => ?_) | refine goL (fun _ _ => inferInstance) ?_ | with_reducible intro _ | refine goO (by first | omega | (simp only [List.length_cons, List.length_nil]; omega)) ?_ | fail))
                refine loop_w (i + 1) ⟨At.to (.int .i64 ((i : Int) + 1)) (by simp), hlt, _, inferInstance, by rw [hst, el3]; simp only [List.append_assoc], ?_⟩ (by omega)
                have e : ((l2 ++ leB 1 t.notes.n) ++ (t.notes.l.take (i + 1)).flatMap (fun k : Key => k.toList)).length ≤ 8000 := by simp only [List.length_append] at hbl ⊢; omega
                rw [hst] at e
                rw [el3]
                simpa only [List.append_assoc] using e
              · haveI : BV (decide ((i : Int) < (t.notes.n : Int))) false := ⟨by simpa using hlt⟩
                rw [take_all (by omega)] at el3
                (repeat (first | refine go ?_ | refine goR ?_ | refine goS (fun yc hyc => ?_) | refine goL (fun _ _ => inferInstance) ?_ | with_reducible intro _ | refine goO (by first | omega | (simp only [List.length_cons, List.length_nil]; omega)) ?_ | fail))
                exact backN (σ0 := σ) Try.results11 (fun σ' _ _ => hK2 _ σ' (by rw [el3, el2, el1, el0]; simp only [encM, h0, if_true, if_false, List.append_assoc, List.nil_append]) inferInstance)⟩
end
end Go.Proofs.Ytchdbmnikaacdaa

/- Panics, deferred calls, recover; what stands in an interface.  -/
set_option linter.all false
namespace Go.Proofs.Ytchdbmnikaacdaa
open Go Go.RowKit
/-! truths of numbers that are told -/
theorem beq_ne {m k : Nat} (h : Nat.beq m k = false) : m ≠ k := fun e => by subst e; simp at h
instance (priority := low) BV.litEqT {m k : Nat} [h : EqB (Nat.beq m k) true] : BV (decide ((no_index (OfNat.ofNat m) : Int) = no_index (OfNat.ofNat k))) true := ⟨by
  have := Nat.eq_of_beq_eq_true h.eq
  subst this; simp⟩
instance (priority := low) BV.litEqF {m k : Nat} [h : EqB (Nat.beq m k) false] : BV (decide ((no_index (OfNat.ofNat m) : Int) = no_index (OfNat.ofNat k))) false := ⟨by
  have := beq_ne h.eq
  have e1 : (OfNat.ofNat m : Int) = (m : Int) := rfl
  have e2 : (OfNat.ofNat k : Int) = (k : Int) := rfl
  rw [e1, e2]
  simp; omega⟩
section
variable {P : Program} {f : Fr} {σ σ0 : St} {ty : TypeId}
class NotIf (d : TypeDesc) : Prop where
  h : ∀ ms, d ≠ .interface ms
instance {k : IntKind} : NotIf (.int k) := ⟨nofun⟩
instance {fs : Array Field} : NotIf (.struct fs) := ⟨nofun⟩
instance NotIf.str : NotIf .string := ⟨nofun⟩
instance StepV.makeIface {t : TypeId} {d : TypeDesc} {x : Operand} {v : Value} [h : Ev f x v] [u : U P t d] [nd : NotIf d] : StepV P (.makeInterface t x) ty f σ (.iface t v) := ⟨by
  have hn := nd.h
  have : (Instr.makeInterface t v).run P σ.w = .ok (.iface t v) σ.w := by
    unfold Instr.makeInterface
    simp only [Sem.run_bind, run_underlying u.h, Result.andThen_ok]
    cases d <;> first | rfl | exact absurd rfl (hn _)
  simp [execOp, h.eq, this]⟩
instance StepV.assert_hit {t xt : TypeId} {d : TypeDesc} {x : Operand} {v : Value} [h : Ev f x (.iface t v)] [u : U P t d] [nd : NotIf d] : StepV P (.typeAssert x xt t true) ty f σ (.tuple #[v, .bool true]) := ⟨by
  have hn := nd.h
  have : (Instr.typeAssert (.iface t v) xt t true).run P σ.w = .ok (.tuple #[v, .bool true]) σ.w := by
    unfold Instr.typeAssert
    simp only [Sem.run_bind, run_underlying u.h, Result.andThen_ok]
    cases d <;> first | (simp; done) | exact absurd rfl (hn _)
  simp [execOp, h.eq, this]⟩
theorem run_eq_if (w : World) {tp : TypeId} {ms : Array (String × TypeId)} (u : U P tp (.interface ms)) (v : Value) (b : Bool) (hb : (v = .nilIface ∧ b = true) ∨ (∃ t x, v = .iface t x ∧ b = false)) (X : Operand) :
    (eqGuard .eql tp X (.const .nilIface) v .nilIface).run P w = .ok () w ∧ (binOp .eql tp v .nilIface).run P w = .ok (.bool b) w := by
  have h : ∀ d : Nat, (Op.equalIn (d + 1) tp v .nilIface).run P w = .ok b w := fun d => by
    rcases hb with ⟨rfl, rfl⟩ | ⟨t, x, rfl, rfl⟩ <;> simp [Op.equalIn, run_underlying u.h]
  refine ⟨?_, ?_⟩
  · rcases hb with ⟨rfl, rfl⟩ | ⟨t, x, rfl, rfl⟩ <;> simp [eqGuard, program, Sem.run]
  · rcases hb with ⟨rfl, rfl⟩ | ⟨t, x, rfl, rfl⟩ <;> simp only [binOp] <;> simp [Op.equal, Op.maxDepth, h 9999]
instance StepV.if_eq_nil {x : Operand} {tp t2 : TypeId} {ms : Array (String × TypeId)} [h : Ev f x .nilIface] [u : U P tp (.interface ms)] : StepV P (.binOp .eql tp x (.const .nilIface) t2) ty f σ (.bool true) := ⟨by
  have hr := run_eq_if σ.w u .nilIface true (.inl ⟨rfl, rfl⟩) x
  have e2 : evo f (.const .nilIface) = .nilIface := rfl
  simp [execOp, h.eq, e2, hr.1, hr.2]⟩
instance StepV.if_eq_some {x : Operand} {tp t2 t : TypeId} {v : Value} {ms : Array (String × TypeId)} [h : Ev f x (.iface t v)] [u : U P tp (.interface ms)] : StepV P (.binOp .eql tp x (.const .nilIface) t2) ty f σ (.bool false) := ⟨by
  have hr := run_eq_if σ.w u (.iface t v) false (.inr ⟨_, _, rfl, rfl⟩) x
  have e2 : evo f (.const .nilIface) = .nilIface := rfl
  simp [execOp, h.eq, e2, hr.1, hr.2]⟩
instance Step.panic {x : Operand} {t : TypeId} {v : Value} [h : Ev f x (.iface t v)] : Step P (.panic x) ty f σ (fun _ E => E [{ v := .iface t v, recovered := false }] σ) := ⟨fun K E hE => by
  have hr : (execOp (evo f) ⟨none, .panic x, ty, "", #[], none⟩).run P σ.w = .halt (.panic (.iface t v)) σ.w := by
    simp [execOp, h.eq, Instr.panic, goPanic, Sem.run]
  unfold OpW; rw [hr]
  exact ⟨σ, rfl, hE⟩⟩
theorem resP {fn : Func} {K : KV} {E : KE} {c : List PanicEntry} (h : E c σ) : resQ P fn K E (.panic c) [] f σ := by
  unfold resQ; exact ⟨rfl, h⟩
/-- a deferred call is laid by -/
theorem WL.defer {ops : Array Oper} {n : Nat} {Q : PostQ} {l : List Oper} {D : List Deferred} {x : Operand} {ty : TypeId} {pos : String} {aft : Array Edge} {fn : Fn} {cap : Array Value} [h : Ev f x (.func fn #[] cap)]
    (hh : WL P ops n Q l ({ target := .fn fn cap, args := #[] } :: D) f σ) : WL P ops n Q (⟨none, .defer { callee := .value x, args := #[], argTypes := #[] }, ty, pos, aft, none⟩ :: l) D f σ := by
  unfold WL at *
  rintro a hn rfl rfl
  refine wpList_plain rfl (fun K hK => ?_)
  have hr : (execOp a.eval ⟨none, .defer { callee := .value x, args := #[], argTypes := #[] }, ty, pos, aft, none⟩).run P σ.w = .ok (.defer { target := .fn fn cap, args := #[] }) σ.w := by
    rw [eval_fr]
    simp [execOp, resolve, h.eq, Deferred.ofValue]
  unfold Oper.wp
  rw [hr, Oper.upon_defer]
  exact hK _ _ (hh _ (by rw [size_put, hn]) (by rw [defers_put]) (by rfl))
instance {ops : Array Oper} {n : Nat} {Q : PostQ} {l : List Oper} {D : List Deferred} {x : Operand} {ty : TypeId} {pos : String} {aft : Array Edge} {fn : Fn} {cap : Array Value} [h : Ev f x (.func fn #[] cap)] :
    Nxt (WL P ops n Q (⟨none, .defer { callee := .value x, args := #[], argTypes := #[] }, ty, pos, aft, none⟩ :: l) D f σ) (WL P ops n Q l ({ target := .fn fn cap, args := #[] } :: D) f σ) := ⟨WL.defer⟩
/-- the end of a function with deferred calls -/
def resD (P : Program) (fn : Func) (R : Ending → World → Prop) : PostQ
  | .normal, D, f, σ | .ret, D, f, σ => ∀ a : Act, fr a = f → Leaves P fn a.tmps R D .returning σ.w
  | .panic c, D, f, σ => ∀ a : Act, fr a = f → Leaves P fn a.tmps R D (.panicking c) σ.w
  | _, _, _, _ => False
def ResEnd (K : KV) (E : KE) : Ending → World → Prop
  | .returned v, w' => ∃ σ' : St, σ'.w = w' ∧ K v σ'
  | .panicked c, w' => ∃ σ' : St, σ'.w = w' ∧ E c σ'
  | .outgrown, _ => False
theorem calls_enterD {g : FuncId} {fn : Func} {c : Code} {args : List Value} {K : KV} {E : KE} (hf : P.funcs[g]? = some fn) (hb : fn.body = some c) (n : Nat) (hn : fn.ntmps = n) (hl : Nat.ble args.length n = true)
    (h : WC P n (resD P fn (ResEnd K E)) c [] (argsF args n) σ) : Calls P g args.toArray σ.w (fun
    | .returned v, w' => ∃ σ' : St, σ'.w = w' ∧ K v σ'
    | .panicked c, w' => ∃ σ' : St, σ'.w = w' ∧ E c σ'
    | .outgrown, _ => False) := by
  have hl' : args.length ≤ n := Nat.le_of_ble_eq_true hl
  have key : Calls P g args.toArray σ.w (ResEnd K E) := by
    refine calls_of_wp_defers hf hb (wp_mono (h.use ⟨args.toArray ++ Array.replicate (fn.ntmps - args.toArray.size) undef, []⟩ ?_ rfl ?_) ?_)
    · simp [hn]; omega
    · funext j
      simp [fr, argsF, hn, List.getD_eq_getElem?_getD, List.getElem?_append, Array.getElem?_append, List.getElem?_replicate, Array.getElem?_replicate]
    · rintro e a' _ ⟨hn', σ', rfl, hq⟩
      cases e with
      | normal => exact hq a' rfl
      | ret => exact hq a' rfl
      | panic ch => exact hq a' rfl
      | exit id => exact hq.elim
      | goto l => exact hq.elim
      | outgrown => exact hq.elim
  exact key.mono fun e w' he => by cases e <;> exact he
/-- what recover tells, and how the caller goes on -/
class RecU (u : FrameMode) (v : outParam Value) (u' : outParam FrameMode) : Prop where
  h : (u = .returning ∧ v = .nilIface ∧ u' = .returning) ∨ ∃ c, u = .panicking [{ v := v, recovered := false }] ∧ u' = .panicking [{ v := v, recovered := true }] ∧ c = v
instance RecU.ret : RecU .returning .nilIface .returning := ⟨.inl ⟨rfl, rfl, rfl⟩⟩
instance RecU.pan {v : Value} : RecU (.panicking [{ v := v, recovered := false }]) v (.panicking [{ v := v, recovered := true }]) := ⟨.inr ⟨_, rfl, rfl, rfl⟩⟩
/-- a deferred function that recovers first -/
theorem callsD_recover {g : FuncId} {fn : Func} {id d : Nat} {ty : TypeId} {pos : String} {aft : Array Edge} {rest : Code} {args : List Value} {K : KV} {E : KE} {u u' : FrameMode} {v : Value} [ru : RecU u v u'] (hf : P.funcs[g]? = some fn)
    (hb : fn.body = some (.seq (.region id #[⟨some d, .call { callee := .builtin .recover, args := #[], argTypes := #[] }, ty, pos, aft, none⟩] false) rest)) (n : Nat) (hn : fn.ntmps = n) (hl : Nat.ble args.length n = true) (hd : Nat.blt d n = true)
    (h : WC P n (resQ P fn K E) rest [] (upd (argsF args n) d v) σ) : CallsD P g args.toArray u σ.w (fun e u2 w' => u2 = u' ∧ ResEnd K E e w') := by
  have hl' : args.length ≤ n := Nat.le_of_ble_eq_true hl
  refine callsD_of_wpS hf hb (fun c0 cs hu => wpS_seq (wpS_region ?_))
  have hnil : ∀ a : Act, (execOp a.eval ⟨some d, .call { callee := .builtin .recover, args := #[], argTypes := #[] }, ty, pos, aft, none⟩).run P σ.w = .ok .recover σ.w := fun a => by
    simp [execOp, resolve, invoke, builtin]
  have hsz : (⟨args.toArray ++ Array.replicate (fn.ntmps - args.toArray.size) undef, []⟩ : Act).tmps.size = n := by simp [hn]; omega
  have hfr : fr (⟨args.toArray ++ Array.replicate (fn.ntmps - args.toArray.size) undef, []⟩ : Act) = argsF args n := by
    funext j
    simp [fr, argsF, hn, List.getD_eq_getElem?_getD, List.getElem?_append, Array.getElem?_append, List.getElem?_replicate, Array.getElem?_replicate]
  have key : ∀ (cs2 : List Frame), cs2 = { c0 with mode := u' } :: cs → rest.wpS P (bodyPostS P fn c0 cs (fun e u2 w' => u2 = u' ∧ ResEnd K E e w')) ((⟨args.toArray ++ Array.replicate (fn.ntmps - args.toArray.size) undef, []⟩ : Act).put (some d) v) cs2 σ.w := by
    intro cs2 hcs
    refine wpS_of_wp (wp_mono (h.use _ (by rw [size_put]; exact hsz) (by rw [defers_put]) (by rw [fr_put (by rw [hsz]; exact lt_of_blt hd), hfr])) ?_)
    rintro e a' _ ⟨hn', σ', rfl, hq⟩
    unfold resQ at hq
    cases e with
    | normal => obtain ⟨hd, v, hr, hk⟩ := hq; exact ⟨hd, u', hcs, v, hr a' rfl, rfl, hk⟩
    | ret => obtain ⟨hd, v, hr, hk⟩ := hq; exact ⟨hd, u', hcs, v, hr a' rfl, rfl, hk⟩
    | panic ch => exact ⟨hq.1, u', hcs, rfl, σ', rfl, hq.2⟩
    | exit id => exact hq.elim
    | goto l => exact hq.elim
    | outgrown => exact hq.elim
  have h0 : (#[(⟨some d, .call { callee := .builtin .recover, args := #[], argTypes := #[] }, ty, pos, aft, none⟩ : Oper)] : Array Oper)[0]? = some ⟨some d, .call { callee := .builtin .recover, args := #[], argTypes := #[] }, ty, pos, aft, none⟩ := rfl
  have hrange : List.range (#[(⟨some d, .call { callee := .builtin .recover, args := #[], argTypes := #[] }, ty, pos, aft, none⟩ : Oper)] : Array Oper).size = [0] := rfl
  rw [hrange]
  simp only [wpOpsS, h0, Region.wanted, if_true, hnil, Exit.thenS]
  rcases ru.h with ⟨rfl, rfl, rfl⟩ | ⟨c, rfl, rfl, rfl⟩
  · have : recoverD (c0 :: cs) = none := by simp [recoverD, hu]
    rw [this]
    exact key _ (by rw [← hu])
  · have : recoverD (c0 :: cs) = some (c, { c0 with mode := .panicking [{ v := c, recovered := true }] } :: cs) := by simp [recoverD, hu]
    rw [this]
    exact key _ rfl
/-- one deferred function, which comes back: then the results are read -/
theorem leaves_one {g : FuncId} {fn : Func} {cap : List Value} {K K1 : KV} {E E1 : KE} {u u' : FrameMode} {rs : List ResultVar} [i : Fnc P g] (hu : u ≠ .run) (hr : fn.results = rs.toArray)
    (hc : CallsD P g cap.toArray u σ.w (fun e u2 w' => u2 = u' ∧ ResEnd K1 E1 e w')) (hs : settle u' = .returning) (hE : ∀ c σ', ¬ E1 c σ')
    (h : ∀ v σ', K1 v σ' → ∃ vs v2, ResL P σ' f rs vs ∧ RetV vs v2 ∧ ∃ σ1 : St, σ1.w = σ'.w ∧ K v2 σ1) :
    ∀ a : Act, fr a = f → Leaves P fn a.tmps (ResEnd K E) [{ target := .fn (.func g) cap.toArray, args := #[] }] u σ.w := by
  intro a ha
  refine leaves_cons hu (by show (invoke (.fn (.func g) cap.toArray) #[]).run P σ.w = .ok (.enter g cap.toArray) σ.w; simp [invoke, i.run]) (hc.mono ?_)
  rintro e u2 w' ⟨rfl, he⟩
  cases e with
  | returned v =>
    obtain ⟨σ', rfl, hk⟩ := he
    obtain ⟨vs, v2, hl, hv, σ1, hw, hk2⟩ := h v σ' hk
    show Leaves P fn a.tmps (ResEnd K E) [] (settle u2) σ'.w
    rw [hs]
    exact ⟨v2, resL_run hr a ha, σ1, hw, hk2⟩
  | panicked c =>
    obtain ⟨σ', _, hk⟩ := he
    exact (hE _ _ hk).elim
  | outgrown => exact he.elim
end
end Go.Proofs.Ytchdbmnikaacdaa

/- Money: sums, and what is told of them; the reference's; by contract.  -/
set_option linter.all false
set_option maxHeartbeats 40000000
set_option synthInstance.maxHeartbeats 2000000
set_option synthInstance.maxSize 100000
namespace Go.Proofs.Ytchdbmnikaacdaa
open Go Go.RowKit
def mayB (a : Int) : Bool := decide (0 ≤ a) && decide (a ≤ 2100000000000000)
theorem mayB_iff {a : Int} : mayB a = true ↔ 0 ≤ a ∧ a ≤ 2100000000000000 := by simp [mayB]
theorem mayB_not {a : Int} : mayB a = false ↔ ¬ (0 ≤ a ∧ a ≤ 2100000000000000) := by
  rw [← mayB_iff]; simp
def addM (acc : Option Int) (x : Int) : Option Int := acc.bind fun s => if mayB x && mayB (s + x) then some (s + x) else none
def sumM (xs : List Int64) : Option Int := xs.foldl (fun a x => addM a x.toInt) (some 0)
theorem foldl_none : ∀ (l : List Int64), l.foldl (fun a x => addM a x.toInt) none = none
  | [] => rfl
  | x :: l => by rw [List.foldl_cons]; exact foldl_none l
theorem sumM_app (l m : List Int64) : sumM (l ++ m) = m.foldl (fun a x => addM a x.toInt) (sumM l) := by unfold sumM; rw [List.foldl_append]
theorem sumM_take {xs : List Int64} {i : Nat} (h : i < xs.length) : sumM (xs.take (i + 1)) = addM (sumM (xs.take i)) xs[i]!.toInt := by
  rw [take_snoc h, sumM_app]; rfl
theorem sumM_none {xs : List Int64} {i : Nat} (h : sumM (xs.take i) = none) : sumM xs = none := by
  rw [← List.take_append_drop i xs, sumM_app, h, foldl_none]
theorem sumM_range {xs : List Int64} : ∀ {i : Nat} {s : Int}, i ≤ xs.length → sumM (xs.take i) = some s → 0 ≤ s ∧ s ≤ 2100000000000000
  | 0, s, _, h => by
    rw [List.take_zero] at h
    have : (some (0 : Int)) = some s := h
    injection this with this; omega
  | i + 1, s, hi, h => by
    rw [sumM_take (by omega)] at h
    cases hp : sumM (xs.take i) with
    | none => rw [hp] at h; cases h
    | some s0 =>
      rw [hp] at h
      simp only [addM, Option.bind_some] at h
      split at h
      · rename_i hc
        rw [Bool.and_eq_true] at hc
        injection h with h; subst h
        exact mayB_iff.1 hc.2
      · cases h
def toldT (σ : St) (o : Option Int) : Tr := fun K _ =>
  match o with
  | some s => ∀ σ', Nx σ σ' .no → K (.tuple #[.int .i64 s, .int .i64 0]) σ'
  | none => ∀ σ', Nx σ σ' .no → K (.tuple #[.int .i64 0, .int .i64 20]) σ'
instance {σ : St} {s : Int} {K : KV} {E : KE} : Nxt (toldT σ (some s) K E) (∀ σ', Nx σ σ' .no → K (.tuple #[.int .i64 s, .int .i64 0]) σ') := ⟨id⟩
instance {σ : St} {K : KV} {E : KE} : Nxt (toldT σ none K E) (∀ σ', Nx σ σ' .no → K (.tuple #[.int .i64 0, .int .i64 20]) σ') := ⟨id⟩
section
variable {σ : St} {A : Option Addr} {n c b : Nat} {xs : List Int64} {a x : Int} {o : Option Int}
theorem i64_rng (x : Int64) : -9223372036854775808 ≤ x.toInt ∧ x.toInt ≤ 9223372036854775807 := by
  have h1 := x.le_toInt; have h2 := x.toInt_lt
  omega
instance rule_ref_May {bb : Bool} [q : BV (mayB a) bb] : CallRule Try.prog 27 [.int .i64 a] σ (fun K _ => ∀ σ', Nx σ σ' .no → K (.bool bb) σ') := ⟨fun K E hK => by
  have hq := q.eq; subst hq
  by_cases h1 : 0 ≤ a
  · haveI : BV (decide (0 ≤ a)) true := ⟨by simpa using h1⟩
    haveI : BV (decide (a ≥ 0)) true := ⟨by simpa using h1⟩
    have e : mayB a = decide (a ≤ 2100000000000000) := by unfold mayB; simp [h1]
    rw [e] at hK
    refine calls_enter Try.func27 rfl _ Try.ntmps27 rfl ?_
    (repeat (first | refine go ?_ | refine goR ?_ | refine goS (fun yc hyc => ?_) | refine goL (fun _ _ => inferInstance) ?_ | with_reducible intro _ | refine goO (by first | omega | (simp only [List.length_cons, List.length_nil]; omega)) ?_ | fail))
    exact backN (σ0 := σ) Try.results27 (fun σ' _ _ => hK σ' inferInstance)
  · haveI : BV (decide (0 ≤ a)) false := ⟨by simpa using h1⟩
    haveI : BV (decide (a ≥ 0)) false := ⟨by simpa using h1⟩
    have e : mayB a = false := by unfold mayB; simp [h1]
    rw [e] at hK
    refine calls_enter Try.func27 rfl _ Try.ntmps27 rfl ?_
    (repeat (first | refine go ?_ | refine goR ?_ | refine goS (fun yc hyc => ?_) | refine goL (fun _ _ => inferInstance) ?_ | with_reducible intro _ | refine goO (by first | omega | (simp only [List.length_cons, List.length_nil]; omega)) ?_ | fail))
    exact backN (σ0 := σ) Try.results27 (fun σ' _ _ => hK σ' inferInstance)⟩
/-- two amounts, added -/
def addR (a b : Int) : Option Int := if mayB a && mayB b && decide (a + b ≤ 2100000000000000) then some (a + b) else none
theorem addR_addM {r : Int} (h : 0 ≤ r ∧ r ≤ 2100000000000000) (x : Int) : addM (some r) x = addR r x := by
  have h1 : mayB r = true := mayB_iff.2 h
  simp only [addM, addR, Option.bind_some, h1, Bool.true_and]
  cases hx : mayB x with
  | false => rfl
  | true =>
    have := mayB_iff.1 hx
    have e : mayB (r + x) = decide (r + x ≤ 2100000000000000) := by
      rw [Bool.eq_iff_iff, mayB_iff, decide_eq_true_eq]; omega
    rw [e]
instance rule_ref_Add {x y : Int} {o : Option Int} [q : Is (addR x y) o] : CallRule Try.prog 24 [.int .i64 x, .int .i64 y] σ (fun K E => toldT σ o K E) := ⟨fun K E hK => by
  have hq := q.eq; subst hq
  have hnone : addR x y = none → ∀ σ', Nx σ σ' .no → K (.tuple #[.int .i64 0, .int .i64 20]) σ' := fun e => by rw [e] at hK; exact hK
  cases h1 : mayB x with
  | false =>
    haveI : BV (mayB x) false := ⟨h1⟩
    have hK := hnone (by simp [addR, h1])
    refine calls_enter Try.func24 rfl _ Try.ntmps24 rfl ?_
    (repeat (first | refine go ?_ | refine goR ?_ | refine goS (fun yc hyc => ?_) | refine goL (fun _ _ => inferInstance) ?_ | with_reducible intro _ | refine goO (by first | omega | (simp only [List.length_cons, List.length_nil]; omega)) ?_ | fail))
    exact backN (σ0 := σ) Try.results24 (fun σ' _ _ => hK σ' inferInstance)
  | true =>
    haveI : BV (mayB x) true := ⟨h1⟩
    cases h2 : mayB y with
    | false =>
      haveI : BV (mayB y) false := ⟨h2⟩
      have hK := hnone (by simp [addR, h2])
      refine calls_enter Try.func24 rfl _ Try.ntmps24 rfl ?_
      (repeat (first | refine go ?_ | refine goR ?_ | refine goS (fun yc hyc => ?_) | refine goL (fun _ _ => inferInstance) ?_ | with_reducible intro _ | refine goO (by first | omega | (simp only [List.length_cons, List.length_nil]; omega)) ?_ | fail))
      exact backN (σ0 := σ) Try.results24 (fun σ' _ _ => hK σ' inferInstance)
    | true =>
      haveI : BV (mayB y) true := ⟨h2⟩
      have g1 := mayB_iff.1 h1
      have g2 := mayB_iff.1 h2
      haveI : Fits .i64 (x + y) := Fits.i64 (by omega) (by omega)
      by_cases h3 : x + y ≤ 2100000000000000
      · haveI : BV (decide (x + y > 2100000000000000)) false := ⟨by simp; omega⟩
        haveI : BV (decide (2100000000000000 < x + y)) false := ⟨by simp; omega⟩
        have e : addR x y = some (x + y) := by simp [addR, h1, h2, h3]
        rw [e] at hK
        have hK : ∀ σ', Nx σ σ' .no → K (.tuple #[.int .i64 (x + y), .int .i64 0]) σ' := hK
        refine calls_enter Try.func24 rfl _ Try.ntmps24 rfl ?_
        (repeat (first | refine go ?_ | refine goR ?_ | refine goS (fun yc hyc => ?_) | refine goL (fun _ _ => inferInstance) ?_ | with_reducible intro _ | refine goO (by first | omega | (simp only [List.length_cons, List.length_nil]; omega)) ?_ | fail))
        exact backN (σ0 := σ) Try.results24 (fun σ' _ _ => hK σ' inferInstance)
      · haveI : BV (decide (x + y > 2100000000000000)) true := ⟨by simp; omega⟩
        haveI : BV (decide (2100000000000000 < x + y)) true := ⟨by simp; omega⟩
        have hK := hnone (by simp [addR, h3])
        refine calls_enter Try.func24 rfl _ Try.ntmps24 rfl ?_
        (repeat (first | refine go ?_ | refine goR ?_ | refine goS (fun yc hyc => ?_) | refine goL (fun _ _ => inferInstance) ?_ | with_reducible intro _ | refine goO (by first | omega | (simp only [List.length_cons, List.length_nil]; omega)) ?_ | fail))
        exact backN (σ0 := σ) Try.results24 (fun σ' _ _ => hK σ' inferInstance)⟩
instance rule_ref_Sum [h : SL σ A n c i64E xs] {o : Option Int} [q : Is (sumM xs) o] : CallRule Try.prog 16 [.slice A n c] σ (fun K E => toldT σ o K E) := ⟨fun K E hK => by
  have hq := q.eq; subst hq
  have hl := h.len
  have hmx := h.max
  refine calls_enter Try.func16 rfl _ Try.ntmps16 rfl ?_
  (repeat (first | refine go ?_ | refine goR ?_ | refine goS (fun yc hyc => ?_) | refine goL (fun _ _ => inferInstance) ?_ | with_reducible intro _ | refine goO (by first | omega | (simp only [List.length_cons, List.length_nil]; omega)) ?_ | fail))
  refine WC.loopW 134217724 .no (fun (i : Nat) f s => At f 5 (.int .i64 (i : Int)) ∧ i ≤ n ∧ ∃ r : Int, At f 4 (.int .i64 r) ∧ sumM (xs.take i) = some r) (fun i => n - i) 0
    ⟨At.to (.int .i64 0) rfl, Nat.zero_le _, 0, inferInstance, by rw [List.take_zero]; rfl⟩ ?_
  rintro i f s ha hs ⟨a8, hi, r, a3, hr⟩
  have hrr := sumM_range (by omega) hr
  by_cases hlt : i < n
  · haveI : BV (decide ((i : Int) < (n : Int))) true := ⟨by simpa using hlt⟩
    haveI : IdxLt i n := ⟨hlt⟩
    haveI : Fits .i64 ((i : Int) + 1) := Fits.i64 (by omega) (by omega)
    have hst := sumM_take (xs := xs) (i := i) (by omega)
    rw [hr, addR_addM hrr] at hst
    cases h1 : addR r xs[i]!.toInt with
    | none =>
      haveI : Is (addR r xs[i]!.toInt) none := ⟨h1⟩
      rw [h1] at hst
      have hno : sumM xs = none := sumM_none (i := i + 1) hst
      rw [hno] at hK
      have hK : ∀ σ', Nx σ σ' .no → K (.tuple #[.int .i64 0, .int .i64 20]) σ' := hK
      (repeat (first | refine go ?_ | refine goR ?_ | refine goS (fun yc hyc => ?_) | refine goL (fun _ _ => inferInstance) ?_ | with_reducible intro _ | refine goO (by first | omega | (simp only [List.length_cons, List.length_nil]; omega)) ?_ | fail))
      exact backN (σ0 := σ) Try.results16 (fun σ' _ _ => hK σ' inferInstance)
    | some r2 =>
      haveI : Is (addR r xs[i]!.toInt) (some r2) := ⟨h1⟩
      rw [h1] at hst
      (repeat (first | refine go ?_ | refine goR ?_ | refine goS (fun yc hyc => ?_) | refine goL (fun _ _ => inferInstance) ?_ | with_reducible intro _ | refine goO (by first | omega | (simp only [List.length_cons, List.length_nil]; omega)) ?_ | fail))
      exact loop_w (i + 1) ⟨At.to (.int .i64 ((i : Int) + 1)) (by simp), hlt, _, inferInstance, hst⟩ (by omega)
  · haveI : BV (decide ((i : Int) < (n : Int))) false := ⟨by simpa using hlt⟩
    rw [take_all (by omega)] at hr
    rw [hr] at hK
    have hK : ∀ σ', Nx σ σ' .no → K (.tuple #[.int .i64 r, .int .i64 0]) σ' := hK
    (repeat (first | refine go ?_ | refine goR ?_ | refine goS (fun yc hyc => ?_) | refine goL (fun _ _ => inferInstance) ?_ | with_reducible intro _ | refine goO (by first | omega | (simp only [List.length_cons, List.length_nil]; omega)) ?_ | fail))
    exact backN (σ0 := σ) Try.results16 (fun σ' _ _ => hK σ' inferInstance)⟩
end
end Go.Proofs.Ytchdbmnikaacdaa

/- The library's functions on slices, at thurible/api.Key, by contract.  -/

set_option linter.all false
set_option maxHeartbeats 40000000
set_option synthInstance.maxHeartbeats 2000000
set_option synthInstance.maxSize 100000
namespace Go.Proofs.Ytchdbmnikaacdaa
open Go Go.RowKit
section
variable {σ : St} {A B : Option Addr} {n c m d : Nat} {xs ys : List Key}
end
end Go.Proofs.Ytchdbmnikaacdaa

/- Plain facts on a stable sort by merging in place: joins, exchanges of parts, rotation, the halves.  -/
namespace Go.Proofs.Ytchdbmnikaacdaa
set_option linter.all false
set_option maxHeartbeats 40000000
set_option synthInstance.maxHeartbeats 2000000
set_option synthInstance.maxSize 100000
section
variable {α : Type} [Inhabited α]
theorem Srt.app {r : α → α → Int} {u v : List α} : Srt r (u ++ v) ↔ Srt r u ∧ Srt r v ∧ ∀ x ∈ u, ∀ y ∈ v, ¬ r y x < 0 := List.pairwise_append
/-- two sorted parts whose borders fit -/
theorem srt_cross {r : α → α → Int} (w : Weak r) {u v : List α} (hu : Srt r u) (hv : Srt r v) (h : ∀ x y, u.getLast? = some x → v.head? = some y → ¬ r y x < 0) : ∀ x ∈ u, ∀ y ∈ v, ¬ r y x < 0 := by
  intro x hx y hy
  rcases List.eq_nil_or_concat u with rfl | ⟨u', a, rfl⟩
  · cases hx
  match v, hy with
  | b :: v', hy =>
    simp only [List.concat_eq_append] at *
    have hb := h a b (by simp) rfl
    have h1 : ¬ r a x < 0 := by
      rcases List.mem_append.1 hx with hx | hx
      · exact (Srt.app.1 hu).2.2 x hx a (by simp)
      · simp at hx; subst hx; exact w.irr x
    have h2 : ¬ r y b < 0 := by
      rcases List.mem_cons.1 hy with rfl | hy
      · exact w.irr y
      · exact (List.pairwise_cons.1 hv).1 y hy
    exact w.tr x b y (w.tr x a b h1 hb) h2
theorem srt_join {r : α → α → Int} (w : Weak r) {u v : List α} (hu : Srt r u) (hv : Srt r v) (h : ∀ x y, u.getLast? = some x → v.head? = some y → ¬ r y x < 0) : Srt r (u ++ v) :=
  Srt.app.2 ⟨hu, hv, srt_cross w hu hv h⟩
theorem Srt.perm_cross {r : α → α → Int} {u v l m : List α} (h : ∀ x ∈ u, ∀ y ∈ v, ¬ r y x < 0) (pl : l.Perm u) (pm : m.Perm v) (hl : Srt r l) (hm : Srt r m) : Srt r (l ++ m) :=
  Srt.app.2 ⟨hl, hm, fun x hx y hy => h x (pl.mem_iff.1 hx) y (pm.mem_iff.1 hy)⟩
theorem get_last {p u q : List α} {x : α} (h : u.getLast? = some x) {j : Nat} (hj : j + 1 = p.length + u.length) : (p ++ (u ++ q))[j]! = x := by
  rcases List.eq_nil_or_concat u with rfl | ⟨u', a, rfl⟩
  · cases h
  simp only [List.concat_eq_append, List.getLast?_concat, Option.some.injEq] at h hj ⊢
  subst h
  have : p ++ (u' ++ [a] ++ q) = (p ++ u') ++ a :: q := by simp
  rw [this]; exact get_mid (by simp at hj ⊢; omega)
theorem get_head {p v q : List α} {y : α} (h : v.head? = some y) {j : Nat} (hj : j = p.length) : (p ++ (v ++ q))[j]! = y := by
  match v, h with
  | b :: v', h => simp at h; subst h; exact get_mid hj

/-- k places from a on and from b on change what they hold -/
def swpR (xs : List α) (a b : Nat) : Nat → List α
  | 0 => xs
  | k + 1 => swp (swpR xs a b k) (a + k) (b + k)
theorem swpR_length (xs : List α) (a b k : Nat) : (swpR xs a b k).length = xs.length := by
  induction k with
  | zero => rfl
  | succ k ih => simp [swpR, swp_length, ih]
theorem swpR_aux : ∀ (k : Nat) (p x m y s : List α), x.length = y.length → k ≤ x.length → swpR (p ++ (x ++ (m ++ (y ++ s)))) p.length (p.length + x.length + m.length) k = p ++ ((y.take k ++ x.drop k) ++ (m ++ ((x.take k ++ y.drop k) ++ s)))
  | 0, p, x, m, y, s, _, _ => by simp [swpR]
  | k + 1, p, x, m, y, s, hl, hk => by
    have ih := swpR_aux k p x m y s hl (by omega)
    have hx : x.drop k = x[k] :: x.drop (k + 1) := List.drop_eq_getElem_cons (by omega)
    have hy : y.drop k = y[k] :: y.drop (k + 1) := List.drop_eq_getElem_cons (by omega)
    have tx : x.take (k + 1) = x.take k ++ [x[k]] := List.take_succ_eq_append_getElem (by omega)
    have ty : y.take (k + 1) = y.take k ++ [y[k]] := List.take_succ_eq_append_getElem (by omega)
    rw [swpR, ih, hx, hy, tx, ty]
    have l1 : (x.take k).length = k := by simp; omega
    have l2 : (y.take k).length = k := by simp; omega
    have l3 : (x.drop (k + 1)).length = x.length - (k + 1) := by simp
    have := swp_mid (p ++ y.take k) (x.drop (k + 1) ++ (m ++ x.take k)) (y.drop (k + 1) ++ s) x[k] y[k] (i := p.length + k) (j := p.length + x.length + m.length + k) (by simp [l2]) (by simp [l2, l1, l3]; omega)
    simp only [List.append_assoc, List.cons_append, List.nil_append] at this ⊢
    exact this
theorem swpR_parts (p x m y s : List α) (hl : x.length = y.length) : swpR (p ++ (x ++ (m ++ (y ++ s)))) p.length (p.length + x.length + m.length) x.length = p ++ (y ++ (m ++ (x ++ s))) := by
  rw [swpR_aux x.length p x m y s hl (Nat.le_refl _), List.take_of_length_le (Nat.le_of_eq hl.symm), List.take_length, List.drop_length, List.drop_of_length_le (Nat.le_of_eq hl.symm)]
  simp

/-- a rotation under way: x at i places ahead of m, y at j places from m on; they are to change places -/
def RotAt (m i j : Nat) (zs T : List α) : Prop := ∃ p x y s : List α, zs = p ++ (x ++ (y ++ s)) ∧ T = p ++ (y ++ (x ++ s)) ∧ x.length = i ∧ y.length = j ∧ p.length + i = m
theorem RotAt.gt {m i j : Nat} {zs T : List α} (h : RotAt m i j zs T) (hij : j < i) : RotAt m (i - j) j (swpR zs (m - i) m j) T := by
  obtain ⟨p, x, y, s, rfl, rfl, hx, hy, hp⟩ := h
  have e : x = x.take j ++ x.drop j := (List.take_append_drop j x).symm
  have l1 : (x.take j).length = j := by simp; omega
  have l2 : (x.drop j).length = i - j := by simp; omega
  refine ⟨p ++ y, x.drop j, x.take j, s, ?_, ?_, l2, l1, by simp; omega⟩
  · have := swpR_parts p (x.take j) (x.drop j) y s (by omega)
    rw [l1, l2, ← List.append_assoc (x.take j), ← e] at this
    rw [show m - i = p.length by omega, show m = p.length + j + (i - j) by omega, this]
    simp
  · rw [← List.append_assoc (x.take j), ← e]; simp
theorem RotAt.lt {m i j : Nat} {zs T : List α} (h : RotAt m i j zs T) (hij : i < j) : RotAt m i (j - i) (swpR zs (m - i) (m + j - i) i) T := by
  obtain ⟨p, x, y, s, rfl, rfl, hx, hy, hp⟩ := h
  have e : y = y.take (j - i) ++ y.drop (j - i) := (List.take_append_drop (j - i) y).symm
  have l1 : (y.take (j - i)).length = j - i := by simp; omega
  have l2 : (y.drop (j - i)).length = i := by simp; omega
  refine ⟨p, y.drop (j - i), y.take (j - i), x ++ s, ?_, ?_, l2, l1, hp⟩
  · have := swpR_parts p x (y.take (j - i)) (y.drop (j - i)) s (by omega)
    rw [l1, hx, ← List.append_assoc (y.take (j - i)), ← e] at this
    rw [show m - i = p.length by omega, show m + j - i = p.length + i + (j - i) by omega, this]
  · rw [← List.append_assoc (y.take (j - i)), ← e]
theorem RotAt.eq {m i : Nat} {zs T : List α} (h : RotAt m i i zs T) : swpR zs (m - i) m i = T := by
  obtain ⟨p, x, y, s, rfl, rfl, hx, hy, hp⟩ := h
  have := swpR_parts p x [] y s (by omega)
  simp only [List.length_nil, Nat.add_zero, List.nil_append, hx] at this
  rw [show m - i = p.length by omega, show m = p.length + i by omega, this]

/-- one element goes up, or down, place by place -/
def bubUp (xs : List α) (a : Nat) : Nat → List α
  | 0 => xs
  | k + 1 => swp (bubUp xs a k) (a + k) (a + k + 1)
theorem bubUp_length (xs : List α) (a k : Nat) : (bubUp xs a k).length = xs.length := by
  induction k with
  | zero => rfl
  | succ k ih => simp [bubUp, swp_length, ih]
theorem bubUp_aux (v p s : List α) (x : α) : ∀ k, k ≤ v.length → bubUp (p ++ (x :: (v ++ s))) p.length k = p ++ (v.take k ++ (x :: (v.drop k ++ s)))
  | 0, _ => by simp [bubUp]
  | k + 1, hk => by
    have hv : v.drop k = v[k] :: v.drop (k + 1) := List.drop_eq_getElem_cons (by omega)
    have tv : v.take (k + 1) = v.take k ++ [v[k]] := List.take_succ_eq_append_getElem (by omega)
    have l1 : (v.take k).length = k := by simp; omega
    rw [bubUp, bubUp_aux v p s x k (by omega), hv, tv]
    have := swp_mid (p ++ v.take k) [] (v.drop (k + 1) ++ s) x v[k] (i := p.length + k) (j := p.length + k + 1) (by simp [l1]) (by simp [l1])
    simp only [List.append_assoc, List.cons_append, List.nil_append] at this ⊢
    exact this
theorem bubUp_eq (v p s : List α) (x : α) : bubUp (p ++ (x :: (v ++ s))) p.length v.length = p ++ (v ++ (x :: s)) := by
  rw [bubUp_aux v p s x v.length (Nat.le_refl _)]; simp
def bubDn (xs : List α) (m : Nat) : Nat → List α
  | 0 => xs
  | k + 1 => swp (bubDn xs m k) (m - k) (m - k - 1)
theorem bubDn_length (xs : List α) (a k : Nat) : (bubDn xs a k).length = xs.length := by
  induction k with
  | zero => rfl
  | succ k ih => simp [bubDn, swp_length, ih]
theorem bubDn_eq : ∀ (v p s : List α) (x : α), bubDn (p ++ (v ++ (x :: s))) (p.length + v.length) v.length = p ++ (x :: (v ++ s)) := by
  intro v
  induction v with
  | nil => intro p s x; rfl
  | cons y v ih =>
    intro p s x
    rw [List.length_cons, bubDn]
    have e : p ++ (y :: v ++ (x :: s)) = (p ++ [y]) ++ (v ++ (x :: s)) := by simp
    have := ih (p ++ [y]) s x
    rw [e, show p.length + (v.length + 1) = (p ++ [y]).length + v.length by simp; omega, this]
    have h2 := swp_mid p [] (v ++ s) y x (i := p.length) (j := p.length + 1) rfl (by simp)
    rw [swp_comm _ _ _ (by simp)]
    simpa [show p.length + 1 + v.length - v.length = p.length + 1 by omega] using h2
end
end Go.Proofs.Ytchdbmnikaacdaa

/- Plain facts on a stable sort by merging in place, the second part: what a merge and its halves come to; blocks.  -/
namespace Go.Proofs.Ytchdbmnikaacdaa
set_option linter.all false
set_option maxHeartbeats 40000000
set_option synthInstance.maxHeartbeats 2000000
set_option synthInstance.maxSize 100000
section
variable {α : Type} [Inhabited α] {r : α → α → Int}
theorem seg_parts {p u q : List α} {a b : Nat} (ha : a = p.length) (hb : b = p.length + u.length) : seg (p ++ (u ++ q)) a b = u := by
  subst ha; subst hb
  simp [seg]
theorem seg_len (xs : List α) {a b : Nat} (h : a ≤ b) (hb : b ≤ xs.length) : (seg xs a b).length = b - a := seg_length xs h hb
theorem seg_app (xs : List α) {a m b : Nat} (h1 : a ≤ m) (h2 : m ≤ b) (h3 : b ≤ xs.length) : seg xs a b = seg xs a m ++ seg xs m b := by
  unfold seg
  have e : (xs.drop m) = (xs.drop a).drop (m - a) := by rw [List.drop_drop]; congr 1; omega
  rw [e, ← List.take_add]
  congr 1; omega
theorem parts3 (xs : List α) {a b : Nat} (h : a ≤ b) (hb : b ≤ xs.length) : ∃ p u q, xs = p ++ (u ++ q) ∧ p.length = a ∧ u.length = b - a ∧ u = seg xs a b ∧ p = xs.take a ∧ q = xs.drop b :=
  ⟨xs.take a, seg xs a b, xs.drop b, seg_split xs h hb, by simp; omega, seg_length xs h hb, rfl, rfl, rfl⟩
theorem seg_trunc (xs : List α) {a b : Nat} (h : xs.length ≤ b) : seg xs a b = seg xs a xs.length := by
  unfold seg
  rw [List.take_of_length_le (by simp; omega), List.take_of_length_le (by simp)]
/-- the rotation of places a to b round m -/
def rotd (xs : List α) (a m b : Nat) : List α := xs.take a ++ (seg xs m b ++ (seg xs a m ++ xs.drop b))
theorem rotd_length (xs : List α) {a m b : Nat} (h1 : a ≤ m) (h2 : m ≤ b) (h3 : b ≤ xs.length) : (rotd xs a m b).length = xs.length := by
  simp [rotd, seg_length xs h1 (by omega), seg_length xs h2 h3]; omega
theorem RotAt.start (xs : List α) {a m b : Nat} (h1 : a ≤ m) (h2 : m ≤ b) (h3 : b ≤ xs.length) : RotAt m (m - a) (b - m) xs (rotd xs a m b) := by
  refine ⟨xs.take a, seg xs a m, seg xs m b, xs.drop b, ?_, rfl, seg_length xs h1 (by omega), seg_length xs h2 h3, by simp; omega⟩
  rw [← List.append_assoc (seg xs a m), ← seg_app xs h1 h2 h3]
  exact seg_split xs (by omega) h3
theorem rotd_id {xs : List α} {a m b : Nat} (h1 : a ≤ m) (h2 : m ≤ b) (h3 : b ≤ xs.length) (h : a = m ∨ m = b) : rotd xs a m b = xs := by
  unfold rotd
  rcases h with rfl | rfl
  · have : seg xs a a = [] := by simp [seg]
    rw [this]; exact (seg_split xs h2 h3).symm
  · have : seg xs m m = [] := by simp [seg]
    rw [this]; exact (seg_split xs h1 h3).symm

theorem InsTo.id_ {xs : List α} {a b : Nat} (h : a ≤ b) (hb : b ≤ xs.length) (hs : Srt r (seg xs a b)) : InsTo r xs a b xs := ⟨seg xs a b, seg_split xs h hb, List.Perm.refl _, hs⟩
theorem InsTo.parts {p u q ys : List α} {a b : Nat} (ha : a = p.length) (hb : b = p.length + u.length) : InsTo r (p ++ (u ++ q)) a b ys ↔ ∃ s, ys = p ++ (s ++ q) ∧ s.Perm u ∧ Srt r s := by
  subst ha; subst hb
  unfold InsTo
  rw [seg_parts rfl rfl]
  have e1 : (p ++ (u ++ q)).take p.length = p := by simp
  have e2 : (p ++ (u ++ q)).drop (p.length + u.length) = q := by rw [← List.append_assoc, ← List.length_append, List.drop_left]
  rw [e1, e2]
theorem InsTo.perm {xs ys : List α} {a b : Nat} (h1 : a ≤ b) (h2 : b ≤ xs.length) (h : InsTo r xs a b ys) : ys.Perm xs := by
  obtain ⟨p, u, q, e, hp, hu, _⟩ := parts3 xs h1 h2
  rw [e, InsTo.parts hp.symm (by omega)] at h
  obtain ⟨s, rfl, hs, _⟩ := h
  rw [e]
  exact (hs.append_right q).append_left p
theorem InsTo.length {xs ys : List α} {a b : Nat} (h1 : a ≤ b) (h2 : b ≤ xs.length) (h : InsTo r xs a b ys) : ys.length = xs.length := (h.perm h1 h2).length_eq
theorem InsTo.left {xs ys : List α} {a b c d : Nat} (h1 : a ≤ b) (h2 : b ≤ xs.length) (h : InsTo r xs a b ys) (hd : d ≤ a) : seg ys c d = seg xs c d := by
  obtain ⟨s, rfl, _, _⟩ := h
  have : ∀ l : List α, seg l c d = (l.take d).drop c := fun l => by rw [seg, List.drop_take]
  rw [this, this]
  congr 1
  rw [List.take_append_of_le_length (by simp; omega), List.take_take, Nat.min_eq_left hd]
theorem InsTo.right {xs ys : List α} {a b c d : Nat} (h1 : a ≤ b) (h2 : b ≤ xs.length) (h : InsTo r xs a b ys) (hc : b ≤ c) : seg ys c d = seg xs c d := by
  obtain ⟨s, rfl, hp, _⟩ := h
  have hl := hp.length_eq
  rw [seg_length xs h1 h2] at hl
  unfold seg
  congr 1
  rw [← List.append_assoc, List.drop_append, List.drop_eq_nil_of_le (by simp; omega), List.nil_append, List.drop_drop]
  congr 1
  simp; omega
theorem InsTo.mid {xs ys : List α} {a b : Nat} (h1 : a ≤ b) (h2 : b ≤ xs.length) (h : InsTo r xs a b ys) : Srt r (seg ys a b) := by
  obtain ⟨s, rfl, hp, hs⟩ := h
  have hl := hp.length_eq
  rw [seg_length xs h1 h2] at hl
  rw [seg_parts (by simp; omega) (by simp; omega)]
  exact hs

/-- what a merge in place does: a rotation, then each half -/
theorem sym_law (w : Weak r) {xs : List α} {a q m e b mid : Nat} (h1 : a ≤ q) (h2 : q ≤ m) (h3 : m ≤ e) (h4 : e ≤ b) (h5 : b ≤ xs.length) (h6 : mid + m = q + e) (hU : Srt r (seg xs a m)) (hV : Srt r (seg xs m b))
    (c1 : q = a ∨ e = b ∨ ¬ r xs[e]! xs[q - 1]! < 0) (c2 : q = m ∨ e = m ∨ r xs[e - 1]! xs[q]! < 0) :
    Srt r (seg (rotd xs q m e) a q) ∧ Srt r (seg (rotd xs q m e) q mid) ∧ (q = a ∨ q = mid → InsTo r (rotd xs q m e) a mid (rotd xs q m e)) ∧
    ∀ ys1, InsTo r (rotd xs q m e) a mid ys1 → Srt r (seg ys1 mid e) ∧ Srt r (seg ys1 e b) ∧ (mid = e ∨ e = b → InsTo r ys1 mid b ys1) ∧ ∀ ys2, InsTo r ys1 mid b ys2 → InsTo r xs a b ys2 := by
  obtain ⟨p, U1, q1, e1, lp, lu1, _⟩ := parts3 xs h1 (by omega : q ≤ xs.length)
  have lq1 : q1.length = xs.length - q := by have := congrArg List.length e1; simp at this; omega
  obtain ⟨U2, q2, e2, lu2, lq2⟩ : ∃ U2 q2, q1 = U2 ++ q2 ∧ U2.length = m - q ∧ q2.length = xs.length - m := ⟨q1.take (m - q), q1.drop (m - q), (List.take_append_drop _ _).symm, by simp; omega, by simp; omega⟩
  obtain ⟨V1, q3, e3, lv1, lq3⟩ : ∃ V1 q3, q2 = V1 ++ q3 ∧ V1.length = e - m ∧ q3.length = xs.length - e := ⟨q2.take (e - m), q2.drop (e - m), (List.take_append_drop _ _).symm, by simp; omega, by simp; omega⟩
  obtain ⟨V2, S, e4, lv2⟩ : ∃ V2 S, q3 = V2 ++ S ∧ V2.length = b - e := ⟨q3.take (b - e), q3.drop (b - e), (List.take_append_drop _ _).symm, by simp; omega⟩
  subst e4; subst e3; subst e2
  clear lq1 lq2 lq3
  subst e1
  have g1 : seg (p ++ (U1 ++ (U2 ++ (V1 ++ (V2 ++ S))))) a m = U1 ++ U2 := by
    have : p ++ (U1 ++ (U2 ++ (V1 ++ (V2 ++ S)))) = p ++ ((U1 ++ U2) ++ (V1 ++ (V2 ++ S))) := by simp
    rw [this]; exact seg_parts (by omega) (by simp; omega)
  have g2 : seg (p ++ (U1 ++ (U2 ++ (V1 ++ (V2 ++ S))))) m b = V1 ++ V2 := by
    have : p ++ (U1 ++ (U2 ++ (V1 ++ (V2 ++ S)))) = (p ++ (U1 ++ U2)) ++ ((V1 ++ V2) ++ S) := by simp
    rw [this]; exact seg_parts (by simp; omega) (by simp; omega)
  rw [g1] at hU
  rw [g2] at hV
  have hrot : rotd (p ++ (U1 ++ (U2 ++ (V1 ++ (V2 ++ S))))) q m e = p ++ (U1 ++ (V1 ++ (U2 ++ (V2 ++ S)))) := by
    unfold rotd
    have r1 : (p ++ (U1 ++ (U2 ++ (V1 ++ (V2 ++ S))))).take q = p ++ U1 := by
      rw [← List.append_assoc]; rw [List.take_append_of_le_length (by simp; omega), List.take_of_length_le (by simp; omega)]
    have r2 : seg (p ++ (U1 ++ (U2 ++ (V1 ++ (V2 ++ S))))) m e = V1 := by
      have : p ++ (U1 ++ (U2 ++ (V1 ++ (V2 ++ S)))) = (p ++ (U1 ++ U2)) ++ (V1 ++ (V2 ++ S)) := by simp
      rw [this]; exact seg_parts (by simp; omega) (by simp; omega)
    have r3 : seg (p ++ (U1 ++ (U2 ++ (V1 ++ (V2 ++ S))))) q m = U2 := by
      have : p ++ (U1 ++ (U2 ++ (V1 ++ (V2 ++ S)))) = (p ++ U1) ++ (U2 ++ (V1 ++ (V2 ++ S))) := by simp
      rw [this]; exact seg_parts (by simp; omega) (by simp; omega)
    have r4 : (p ++ (U1 ++ (U2 ++ (V1 ++ (V2 ++ S))))).drop e = V2 ++ S := by
      have : p ++ (U1 ++ (U2 ++ (V1 ++ (V2 ++ S)))) = (p ++ (U1 ++ (U2 ++ V1))) ++ (V2 ++ S) := by simp
      rw [this, List.drop_append, List.drop_eq_nil_of_le (by simp; omega), List.nil_append]
      rw [show e - (p ++ (U1 ++ (U2 ++ V1))).length = 0 by simp; omega]; rfl
    rw [r1, r2, r3, r4]; simp
  rw [hrot]
  obtain ⟨sU1, sU2, xU⟩ := Srt.app.1 hU
  obtain ⟨sV1, sV2, xV⟩ := Srt.app.1 hV
  have cA : ∀ x ∈ U1, ∀ y ∈ V2, ¬ r y x < 0 := by
    refine srt_cross w sU1 sV2 (fun x y hx hy => ?_)
    have nx : U1 ≠ [] := by rintro rfl; cases hx
    have ny : V2 ≠ [] := by rintro rfl; cases hy
    have : 0 < U1.length := List.length_pos_iff.2 nx
    have : 0 < V2.length := List.length_pos_iff.2 ny
    have k1 : (p ++ (U1 ++ (U2 ++ (V1 ++ (V2 ++ S)))))[q - 1]! = x := get_last hx (by omega)
    have k2 : (p ++ (U1 ++ (U2 ++ (V1 ++ (V2 ++ S)))))[e]! = y := by
      have e5 : p ++ (U1 ++ (U2 ++ (V1 ++ (V2 ++ S)))) = (p ++ (U1 ++ (U2 ++ V1))) ++ (V2 ++ S) := by simp
      rw [e5]; exact get_head hy (by simp; omega)
    rw [k1, k2] at c1
    rcases c1 with c | c | c
    · omega
    · omega
    · exact c
  have cB : ∀ x ∈ V1, ∀ y ∈ U2, ¬ r y x < 0 := by
    refine srt_cross w sV1 sU2 (fun x y hx hy => ?_)
    have nx : V1 ≠ [] := by rintro rfl; cases hx
    have ny : U2 ≠ [] := by rintro rfl; cases hy
    have : 0 < V1.length := List.length_pos_iff.2 nx
    have : 0 < U2.length := List.length_pos_iff.2 ny
    have k1 : (p ++ (U1 ++ (U2 ++ (V1 ++ (V2 ++ S)))))[q]! = y := by
      have e5 : p ++ (U1 ++ (U2 ++ (V1 ++ (V2 ++ S)))) = (p ++ U1) ++ (U2 ++ (V1 ++ (V2 ++ S))) := by simp
      rw [e5]; exact get_head hy (by simp; omega)
    have k2 : (p ++ (U1 ++ (U2 ++ (V1 ++ (V2 ++ S)))))[e - 1]! = x := by
      have e5 : p ++ (U1 ++ (U2 ++ (V1 ++ (V2 ++ S)))) = (p ++ (U1 ++ U2)) ++ (V1 ++ (V2 ++ S)) := by simp
      rw [e5]; exact get_last hx (by simp; omega)
    rw [k1, k2] at c2
    rcases c2 with c | c | c
    · omega
    · omega
    · exact w.asym _ _ c
  have f1 : p ++ (U1 ++ (V1 ++ (U2 ++ (V2 ++ S)))) = p ++ ((U1 ++ V1) ++ (U2 ++ (V2 ++ S))) := by simp
  have f2 : p ++ (U1 ++ (V1 ++ (U2 ++ (V2 ++ S)))) = (p ++ U1) ++ (V1 ++ (U2 ++ (V2 ++ S))) := by simp
  refine ⟨by rw [seg_parts (by omega) (by omega)]; exact sU1, by rw [f2, seg_parts (by simp; omega) (by simp; omega)]; exact sV1, fun hq => ?_, fun ys1 hy1 => ?_⟩
  · rw [f1]
    refine (InsTo.parts (by omega) (by simp; omega)).2 ⟨U1 ++ V1, rfl, List.Perm.refl _, ?_⟩
    rcases hq with hq | hq
    · have : U1 = [] := List.eq_nil_of_length_eq_zero (by omega)
      subst this; exact sV1
    · have : V1 = [] := List.eq_nil_of_length_eq_zero (by omega)
      subst this; rw [List.append_nil]; exact sU1
  · rw [f1, InsTo.parts (by omega) (by simp; omega)] at hy1
    obtain ⟨L, rfl, pL, sL⟩ := hy1
    have lL : L.length = U1.length + V1.length := by rw [pL.length_eq]; simp
    have f3 : p ++ (L ++ (U2 ++ (V2 ++ S))) = (p ++ L) ++ (U2 ++ (V2 ++ S)) := by simp
    have f4 : p ++ (L ++ (U2 ++ (V2 ++ S))) = (p ++ (L ++ U2)) ++ (V2 ++ S) := by simp
    have f5 : p ++ (L ++ (U2 ++ (V2 ++ S))) = (p ++ L) ++ ((U2 ++ V2) ++ S) := by simp
    refine ⟨by rw [f3, seg_parts (by simp; omega) (by simp; omega)]; exact sU2, by rw [f4, seg_parts (by simp; omega) (by simp; omega)]; exact sV2, fun hq => ?_, fun ys2 hy2 => ?_⟩
    · rw [f5]
      refine (InsTo.parts (by simp; omega) (by simp; omega)).2 ⟨U2 ++ V2, rfl, List.Perm.refl _, ?_⟩
      rcases hq with hq | hq
      · have : U2 = [] := List.eq_nil_of_length_eq_zero (by omega)
        subst this; exact sV2
      · have : V2 = [] := List.eq_nil_of_length_eq_zero (by omega)
        subst this; rw [List.append_nil]; exact sU2
    · rw [f5, InsTo.parts (by simp; omega) (by simp; omega)] at hy2
      obtain ⟨R, rfl, pR, sR⟩ := hy2
      have f6 : p ++ (U1 ++ (U2 ++ (V1 ++ (V2 ++ S)))) = p ++ ((U1 ++ (U2 ++ (V1 ++ V2))) ++ S) := by simp
      rw [f6]
      refine (InsTo.parts (by omega) (by simp; omega)).2 ⟨L ++ R, by simp, ?_, ?_⟩
      · refine (pL.append pR).trans ?_
        have : ((U1 ++ V1) ++ (U2 ++ V2)).Perm (U1 ++ (U2 ++ (V1 ++ V2))) := by
          rw [List.append_assoc]
          refine List.Perm.append_left U1 ?_
          rw [← List.append_assoc, ← List.append_assoc]
          exact List.Perm.append_right V2 List.perm_append_comm
        exact this
      · refine Srt.perm_cross (fun x hx y hy => ?_) pL pR sL sR
        rcases List.mem_append.1 hx with hx | hx <;> rcases List.mem_append.1 hy with hy | hy
        · exact xU x hx y hy
        · exact cA x hx y hy
        · exact cB x hx y hy
        · exact xV x hx y hy
/-- one element ahead of a sorted part -/
theorem one_law (w : Weak r) {xs : List α} {a i b : Nat} (h1 : a + 1 ≤ i) (h2 : i ≤ b) (h5 : b ≤ xs.length) (hV : Srt r (seg xs (a + 1) b)) (c1 : i = a + 1 ∨ r xs[i - 1]! xs[a]! < 0) (c2 : i = b ∨ ¬ r xs[i]! xs[a]! < 0) : InsTo r xs a b (bubUp xs a (i - 1 - a)) := by
  obtain ⟨p, q1, e1, lp⟩ : ∃ p q1, xs = p ++ q1 ∧ p.length = a := ⟨xs.take a, xs.drop a, (List.take_append_drop _ _).symm, by simp; omega⟩
  have lq1 : q1.length = xs.length - a := by have := congrArg List.length e1; simp at this; omega
  match q1, lq1 with
  | [], lq1 => simp at lq1; omega
  | x :: q2, lq1 =>
  simp at lq1
  obtain ⟨V1, q3, e3, lv1⟩ : ∃ V1 q3, q2 = V1 ++ q3 ∧ V1.length = i - 1 - a := ⟨q2.take (i - 1 - a), q2.drop (i - 1 - a), (List.take_append_drop _ _).symm, by simp; omega⟩
  have lq3 : q3.length = xs.length - i := by have := congrArg List.length e3; simp at this; omega
  obtain ⟨V2, S, e4, lv2⟩ : ∃ V2 S, q3 = V2 ++ S ∧ V2.length = b - i := ⟨q3.take (b - i), q3.drop (b - i), (List.take_append_drop _ _).symm, by simp; omega⟩
  subst e4; subst e3
  clear lq1 lq3
  subst e1
  have g2 : seg (p ++ (x :: (V1 ++ (V2 ++ S)))) (a + 1) b = V1 ++ V2 := by
    have : p ++ (x :: (V1 ++ (V2 ++ S))) = (p ++ [x]) ++ ((V1 ++ V2) ++ S) := by simp
    rw [this]; exact seg_parts (by simp; omega) (by simp; omega)
  rw [g2] at hV
  obtain ⟨sV1, sV2, xV⟩ := Srt.app.1 hV
  have hx : (p ++ (x :: (V1 ++ (V2 ++ S))))[a]! = x := get_mid lp.symm
  rw [hx] at c1 c2
  have cA : ∀ y ∈ V1, ∀ z ∈ [x], ¬ r z y < 0 := by
    refine srt_cross w sV1 (List.pairwise_singleton _ _) (fun y z hy hz => ?_)
    simp at hz; subst hz
    have ny : V1 ≠ [] := by rintro rfl; cases hy
    have : 0 < V1.length := List.length_pos_iff.2 ny
    have k : (p ++ (x :: (V1 ++ (V2 ++ S))))[i - 1]! = y := by
      have e5 : p ++ (x :: (V1 ++ (V2 ++ S))) = (p ++ [x]) ++ (V1 ++ (V2 ++ S)) := by simp
      rw [e5]; exact get_last hy (by simp; omega)
    rw [k] at c1
    rcases c1 with c | c
    · omega
    · exact w.asym _ _ c
  have cB : ∀ z ∈ [x], ∀ y ∈ V2, ¬ r y z < 0 := by
    refine srt_cross w (List.pairwise_singleton _ _) sV2 (fun z y hz hy => ?_)
    simp at hz; subst hz
    have ny : V2 ≠ [] := by rintro rfl; cases hy
    have : 0 < V2.length := List.length_pos_iff.2 ny
    have k : (p ++ (x :: (V1 ++ (V2 ++ S))))[i]! = y := by
      have e5 : p ++ (x :: (V1 ++ (V2 ++ S))) = (p ++ (x :: V1)) ++ (V2 ++ S) := by simp
      rw [e5]; exact get_head hy (by simp; omega)
    rw [k] at c2
    rcases c2 with c | c
    · omega
    · exact c
  have hb := bubUp_eq V1 p (V2 ++ S) x
  rw [show i - 1 - a = V1.length by omega, ← lp, hb]
  have f6 : p ++ (x :: (V1 ++ (V2 ++ S))) = p ++ ((x :: (V1 ++ V2)) ++ S) := by simp
  rw [f6]
  refine (InsTo.parts rfl (by simp; omega)).2 ⟨V1 ++ (x :: V2), by simp, List.perm_middle, ?_⟩
  refine Srt.app.2 ⟨sV1, Srt.app (u := [x]).2 ⟨List.pairwise_singleton _ _, sV2, cB⟩, fun y hy z hz => ?_⟩
  rcases List.mem_cons.1 hz with rfl | hz
  · exact cA y hy z (by simp)
  · exact xV y hy z hz
/-- one element behind a sorted part -/
theorem two_law (w : Weak r) {xs : List α} {a i m : Nat} (h1 : a ≤ i) (h2 : i ≤ m) (h5 : m < xs.length) (hU : Srt r (seg xs a m)) (c1 : i = a ∨ ¬ r xs[m]! xs[i - 1]! < 0) (c2 : i = m ∨ r xs[m]! xs[i]! < 0) : InsTo r xs a (m + 1) (bubDn xs m (m - i)) := by
  obtain ⟨p, U1, q1, e1, lp, lu1, _⟩ := parts3 xs h1 (by omega : i ≤ xs.length)
  have lq1 : q1.length = xs.length - i := by have := congrArg List.length e1; simp at this; omega
  obtain ⟨U2, q2, e2, lu2, lq2⟩ : ∃ U2 q2, q1 = U2 ++ q2 ∧ U2.length = m - i ∧ q2.length = xs.length - m := ⟨q1.take (m - i), q1.drop (m - i), (List.take_append_drop _ _).symm, by simp; omega, by simp; omega⟩
  match q2, lq2 with
  | [], lq2 => simp at lq2; omega
  | x :: S, lq2 =>
  subst e2
  clear lq1 lq2
  subst e1
  have g1 : seg (p ++ (U1 ++ (U2 ++ (x :: S)))) a m = U1 ++ U2 := by
    have : p ++ (U1 ++ (U2 ++ (x :: S))) = p ++ ((U1 ++ U2) ++ (x :: S)) := by simp
    rw [this]; exact seg_parts (by omega) (by simp; omega)
  rw [g1] at hU
  obtain ⟨sU1, sU2, xU⟩ := Srt.app.1 hU
  have hx : (p ++ (U1 ++ (U2 ++ (x :: S))))[m]! = x := by
    have e5 : p ++ (U1 ++ (U2 ++ (x :: S))) = (p ++ (U1 ++ U2)) ++ (x :: S) := by simp
    rw [e5]; exact get_mid (by simp; omega)
  rw [hx] at c1 c2
  have cA : ∀ y ∈ U1, ∀ z ∈ [x], ¬ r z y < 0 := by
    refine srt_cross w sU1 (List.pairwise_singleton _ _) (fun y z hy hz => ?_)
    simp at hz; subst hz
    have ny : U1 ≠ [] := by rintro rfl; cases hy
    have : 0 < U1.length := List.length_pos_iff.2 ny
    have k : (p ++ (U1 ++ (U2 ++ (x :: S))))[i - 1]! = y := get_last hy (by omega)
    rw [k] at c1
    rcases c1 with c | c
    · omega
    · exact c
  have cB : ∀ z ∈ [x], ∀ y ∈ U2, ¬ r y z < 0 := by
    refine srt_cross w (List.pairwise_singleton _ _) sU2 (fun z y hz hy => ?_)
    simp at hz; subst hz
    have ny : U2 ≠ [] := by rintro rfl; cases hy
    have : 0 < U2.length := List.length_pos_iff.2 ny
    have k : (p ++ (U1 ++ (U2 ++ (x :: S))))[i]! = y := by
      have e5 : p ++ (U1 ++ (U2 ++ (x :: S))) = (p ++ U1) ++ (U2 ++ (x :: S)) := by simp
      rw [e5]; exact get_head hy (by simp; omega)
    rw [k] at c2
    rcases c2 with c | c
    · omega
    · exact w.asym _ _ c
  have hb := bubDn_eq U2 (p ++ U1) S x
  have f6 : p ++ (U1 ++ (U2 ++ (x :: S))) = (p ++ U1) ++ (U2 ++ (x :: S)) := by simp
  have hm : m = (p ++ U1).length + U2.length := by simp; omega
  rw [f6]
  have hb2 : bubDn ((p ++ U1) ++ (U2 ++ (x :: S))) m (m - i) = (p ++ U1) ++ (x :: (U2 ++ S)) := by
    rw [← hb]; congr 1; omega
  rw [hb2]
  have f7 : (p ++ U1) ++ (U2 ++ (x :: S)) = p ++ ((U1 ++ (U2 ++ [x])) ++ S) := by simp
  rw [f7]
  refine (InsTo.parts (by omega) (by simp; omega)).2 ⟨U1 ++ (x :: U2), by simp, ?_, ?_⟩
  · exact List.Perm.append_left U1 (List.perm_append_singleton x U2).symm
  · refine Srt.app.2 ⟨sU1, Srt.app (u := [x]).2 ⟨List.pairwise_singleton _ _, sU2, cB⟩, fun y hy z hz => ?_⟩
    rcases List.mem_cons.1 hz with rfl | hz
    · exact cA y hy z (by simp)
    · exact xU y hy z hz
end
end Go.Proofs.Ytchdbmnikaacdaa

/- keys: compare and Less by contract.  -/
set_option linter.all false
set_option maxHeartbeats 40000000
set_option synthInstance.maxHeartbeats 2000000
set_option synthInstance.maxSize 100000
namespace Go.Proofs.Ytchdbmnikaacdaa
open Go Go.RowKit

class RdB (σ : St) (A : Option Addr) (n : Nat) (bs : outParam (List UInt8)) : Prop where
  len : bs.length = n
  rd : bs = [] ∨ ∃ b o, A = some ⟨b, o, none⟩ ∧ ∀ (j : Nat) (h : j < bs.length), σ.w.cell? ⟨b, o + j, none⟩ = some (u8v bs[j])
instance RdB.own_key {σ : St} {b : Nat} {t : TypeId} {k : Key} [h : Own σ b t (kc k)] : RdB σ (some ⟨b, 0, none⟩) 32 k.toList :=
  ⟨by simp, .inr ⟨b, 0, rfl, fun j hj => by
    rw [cell_own h.h]
    have : j < 32 := by simpa using hj
    simp [kc_get k j this]⟩⟩

theorem run_loadBytes {P : Program} {w : World} : ∀ (bs : List UInt8) (b o : Nat) (acc : ByteArray), (∀ (j : Nat) (h : j < bs.length), w.cell? ⟨b, o + j, none⟩ = some (u8v bs[j])) →
    (Extern.Bytes.loadBytes ⟨b, o, none⟩ bs.length acc).run P w = .ok ⟨acc.data ++ bs.toArray⟩ w
  | [], b, o, acc, _ => by simp [Extern.Bytes.loadBytes]
  | x :: xs, b, o, acc, h => by
    have h0 := h 0 (by simp)
    simp only [Nat.add_zero, List.getElem_cons_zero] at h0
    have ih := run_loadBytes (P := P) (w := w) xs b (o + 1) (acc.push x) (fun j hj => by
      have := h (j + 1) (by simpa using hj)
      simpa [Nat.add_assoc, Nat.add_comm 1 j] using this)
    simp only [List.length_cons, Extern.Bytes.loadBytes, Sem.run_bind, load, Sem.run, h0, Result.andThen_ok, u8v, add_at]
    have e : (x.toNat : Int).toNat.toUInt8 = x := by simp
    rw [e, ih]
    simp [ByteArray.push, ByteArray.data]

theorem RdB.run {P : Program} {σ : St} {A : Option Addr} {n c : Nat} {bs : List UInt8} (h : RdB σ A n bs) : (Extern.Bytes.bytesOf (.slice A n c)).run P σ.w = .ok ⟨bs.toArray⟩ σ.w := by
  rcases h.rd with e | ⟨b, o, rfl, hc⟩
  · subst e
    have := h.len; simp at this; subst this
    cases A <;> rfl
  · have := run_loadBytes (P := P) (w := σ.w) bs b o .empty hc
    rw [h.len] at this
    simpa [Extern.Bytes.bytesOf] using this

end Go.Proofs.Ytchdbmnikaacdaa

/- The references' small functions of keys, by contract.  -/
set_option linter.all false
set_option maxHeartbeats 40000000
set_option synthInstance.maxHeartbeats 2000000
set_option synthInstance.maxSize 100000
namespace Go.Proofs.Ytchdbmnikaacdaa
open Go Go.RowKit

theorem take_snoc_eq {xs ys : List Key} {i : Nat} (h1 : i < xs.length) (h2 : i < ys.length) (h : xs.take i = ys.take i) (e : xs[i]! = ys[i]!) : xs.take (i + 1) = ys.take (i + 1) := by
  rw [List.take_succ_eq_append_getElem h1, List.take_succ_eq_append_getElem h2, h]
  rw [getElem!_pos xs i h1, getElem!_pos ys i h2] at e
  rw [e]

end Go.Proofs.Ytchdbmnikaacdaa

/- The plain sorted list of keys.  -/
namespace Go.Proofs.Ytchdbmnikaacdaa
set_option linter.all false
open Go
/-- put a key ahead of the first one that it is below -/
def kput : List Key → Key → List Key
  | [], k => [k]
  | x :: l, k => if klt k x then k :: x :: l else x :: kput l k
def ksort (l : List Key) : List Key := l.foldl kput []
instance weak_keys : Weak kcmp := ⟨fun x => by rw [kcmp_self]; omega, fun x y h => by rw [kcmp_swap]; omega, fun x y z h1 h2 h3 => by
  rw [kcmp_swap x y] at h1
  rw [kcmp_swap y z] at h2
  rw [kcmp_swap x z] at h3
  by_cases e1 : kcmp x y = 0
  · rw [kcmp_zero e1] at h3; omega
  · by_cases e2 : kcmp y z = 0
    · rw [kcmp_zero e2] at e1 h1; omega
    · have : kcmp x z < 0 := lexc_trans (show lexc x.toList y.toList < 0 from by have := h1; unfold kcmp at *; omega) (show lexc y.toList z.toList < 0 from by have := h2; unfold kcmp at *; omega)
      omega⟩
theorem kput_perm : ∀ (l : List Key) (k : Key), (kput l k).Perm (k :: l)
  | [], k => List.Perm.refl _
  | x :: l, k => by
    unfold kput
    split
    · exact List.Perm.refl _
    · exact ((kput_perm l k).cons x).trans (List.Perm.swap k x l)
theorem kput_mem {l : List Key} {k y : Key} (h : y ∈ kput l k) : y = k ∨ y ∈ l := by
  have := (kput_perm l k).mem_iff.1 h
  simpa using this
theorem kput_srt : ∀ {l : List Key} {k : Key}, Srt kcmp l → Srt kcmp (kput l k)
  | [], k, _ => List.pairwise_singleton _ _
  | x :: l, k, h => by
    unfold Srt at h
    rw [List.pairwise_cons] at h
    unfold kput
    split
    · rename_i hlt
      have hkx : kcmp k x < 0 := by simpa [klt] using hlt
      refine List.pairwise_cons.2 ⟨fun y hy => ?_, List.pairwise_cons.2 h⟩
      rcases List.mem_cons.1 hy with rfl | hy
      · exact weak_keys.asym _ _ hkx
      · exact weak_keys.tr k x y (weak_keys.asym _ _ hkx) (h.1 y hy)
    · rename_i hlt
      have hkx : ¬ kcmp k x < 0 := by simpa [klt] using hlt
      refine List.pairwise_cons.2 ⟨fun y hy => ?_, kput_srt h.2⟩
      rcases kput_mem hy with rfl | hy
      · exact hkx
      · exact h.1 y hy
theorem foldl_kput : ∀ (l acc : List Key), Srt kcmp acc → Srt kcmp (l.foldl kput acc) ∧ (l.foldl kput acc).Perm (l ++ acc)
  | [], acc, h => ⟨h, List.Perm.refl _⟩
  | x :: l, acc, h => by
    obtain ⟨h1, h2⟩ := foldl_kput l (kput acc x) (kput_srt h)
    refine ⟨h1, h2.trans ?_⟩
    have : (l ++ kput acc x).Perm (l ++ x :: acc) := (kput_perm acc x).append_left l
    exact this.trans List.perm_middle
theorem ksort_srt (l : List Key) : Srt kcmp (ksort l) := (foldl_kput l [] List.Pairwise.nil).1
theorem ksort_perm (l : List Key) : (ksort l).Perm l := by
  have h := (foldl_kput l [] List.Pairwise.nil).2
  rw [List.append_nil] at h
  exact h
theorem srt_unique {s u : List Key} (h : Srt kcmp s) (g : Srt kcmp u) (p : s.Perm u) : s = u :=
  List.Perm.eq_of_pairwise (le := fun x y => ¬ kcmp y x < 0) (fun a b _ _ h1 h2 => by
    have := kcmp_swap a b
    exact kcmp_zero (by omega)) h g p
theorem ksort_of {l s : List Key} (h : Srt kcmp s) (p : s.Perm l) : s = ksort l := srt_unique h (ksort_srt l) (p.trans (ksort_perm l).symm)
theorem ksort_length (l : List Key) : (ksort l).length = l.length := (ksort_perm l).length_eq
theorem ksort_congr {l m : List Key} (p : l.Perm m) : ksort l = ksort m := ksort_of (ksort_srt l) ((ksort_perm l).trans p)
theorem ksort_ksort (l : List Key) : ksort (ksort l) = ksort l := ksort_congr (ksort_perm l)
theorem ksort_mem {l : List Key} {k : Key} : k ∈ ksort l ↔ k ∈ l := (ksort_perm l).mem_iff
/-- a sort of all places -/
theorem SortedSeg.all {xs ys : List Key} (h : SortedSeg kcmp xs 0 xs.length ys) : ys = ksort xs := by
  obtain ⟨s, rfl, hp, hs⟩ := h
  have : xs.drop xs.length = [] := by simp
  simp only [List.take_zero, List.nil_append, this, List.append_nil]
  exact ksort_of hs (hp.trans (by simp [seg]))
end Go.Proofs.Ytchdbmnikaacdaa

/- The library's stable sort at keys: insertion, rotation, merging, by contract.  -/
set_option linter.all false
set_option maxHeartbeats 40000000
set_option synthInstance.maxHeartbeats 2000000
set_option synthInstance.maxSize 100000
namespace Go.Proofs.Ytchdbmnikaacdaa
open Go Go.RowKit

section
variable {σ : St} {A : Option Addr} {n c : Nat} {t : TypeId} {xs : List Key} {fv : Value} {r : Key → Key → Int}


end
end Go.Proofs.Ytchdbmnikaacdaa

/- The library's stable sort at keys, of whatever length: exchanges, rotation, by contract.  -/
set_option linter.all false
set_option maxHeartbeats 20000000
set_option synthInstance.maxHeartbeats 2000000
set_option synthInstance.maxSize 100000
namespace Go.Proofs.Ytchdbmnikaacdaa
open Go Go.RowKit
section
variable {σ : St} {A : Option Addr} {n c : Nat} {t : TypeId} {xs : List Key} {fv : Value} {r : Key → Key → Int}


end
end Go.Proofs.Ytchdbmnikaacdaa

/- The library's merge in place at keys, by contract.  -/
set_option linter.all false
set_option maxHeartbeats 40000000
set_option synthInstance.maxHeartbeats 2000000
set_option synthInstance.maxSize 100000
namespace Go.Proofs.Ytchdbmnikaacdaa
open Go Go.RowKit
section
variable {A : Option Addr} {n c : Nat} {t : TypeId} {fv : Value} {r : Key → Key → Int}

end
end Go.Proofs.Ytchdbmnikaacdaa

/- The library's stable sort at keys, of whatever length; keys.Sort.  -/
set_option linter.all false
set_option maxHeartbeats 40000000
set_option synthInstance.maxHeartbeats 2000000
set_option synthInstance.maxSize 100000
namespace Go.Proofs.Ytchdbmnikaacdaa
open Go Go.RowKit
section
variable {α : Type} [Inhabited α] {r : α → α → Int}
def Blk (r : α → α → Int) (bs k : Nat) (zs : List α) : Prop := ∀ j, j < k → Srt r (seg zs (bs * j) (bs * (j + 1)))
theorem Blk.step {bs k a b : Nat} {zs ys : List α} (ha : a = bs * k) (hb : b = bs * (k + 1)) (hl : b ≤ zs.length) (h : Blk r bs k zs) (hi : InsTo r zs a b ys) : Blk r bs (k + 1) ys := by
  have hab : a ≤ b := by rw [ha, hb]; exact Nat.mul_le_mul_left _ (by omega)
  intro j hj
  rcases Nat.lt_or_ge j k with hjk | hjk
  · rw [hi.left hab hl (by rw [ha]; exact Nat.mul_le_mul_left _ (by omega))]
    exact h j hjk
  · have : j = k := by omega
    subst this
    rw [← ha, ← hb]
    exact hi.mid hab hl
theorem Blk.last {bs k a n : Nat} {zs ys : List α} (ha : a = bs * k) (hn : zs.length = n) (han : a ≤ n) (hlt : n < bs * (k + 1)) (h : Blk r bs k zs) (hi : InsTo r zs a n ys) : ∀ j, Srt r (seg ys (bs * j) (bs * (j + 1))) := by
  have hl := hi.length han (by omega)
  intro j
  rcases Nat.lt_or_ge j k with hjk | hjk
  · rw [hi.left han (by omega) (by rw [ha]; exact Nat.mul_le_mul_left _ (by omega))]
    exact h j hjk
  · rcases Nat.lt_or_ge k j with hkj | hkj
    · have : n ≤ bs * j := Nat.le_trans (Nat.le_of_lt hlt) (Nat.mul_le_mul_left _ (by omega))
      have e : seg ys (bs * j) (bs * (j + 1)) = [] := by
        unfold seg
        rw [List.drop_eq_nil_of_le (by omega), List.take_nil]
      rw [e]; exact List.Pairwise.nil
    · have : j = k := by omega
      subst this
      rw [seg_trunc ys (by omega), hl, hn, ← ha]
      exact hi.mid han (by omega)
theorem blk_all {bs n : Nat} {xs zs : List α} (hn : zs.length = n) (hb : n ≤ bs) (hp : zs.Perm xs) (h : ∀ j, Srt r (seg zs (bs * j) (bs * (j + 1)))) : SortedSeg r xs 0 n zs := by
  have h0 := h 0
  rw [Nat.mul_zero, Nat.zero_add, Nat.mul_one] at h0
  have e : seg zs 0 bs = zs := by unfold seg; rw [List.drop_zero]; exact List.take_of_length_le (by omega)
  rw [e] at h0
  have hx := hp.length_eq
  refine ⟨zs, ?_, ?_, h0⟩
  · simp; omega
  · have : seg xs 0 n = xs := by unfold seg; rw [List.drop_zero]; exact List.take_of_length_le (by omega)
    rw [this]; exact hp
end
section
variable {σ : St} {A : Option Addr} {n c : Nat} {t : TypeId} {xs : List Key} {fv : Value} {r : Key → Key → Int}



end
end Go.Proofs.Ytchdbmnikaacdaa

/- keys.Meet, the reference's Has, by contract.  -/
set_option linter.all false
set_option maxHeartbeats 40000000
set_option synthInstance.maxHeartbeats 2000000
set_option synthInstance.maxSize 100000
namespace Go.Proofs.Ytchdbmnikaacdaa
open Go Go.RowKit
def hasK (l : List Key) (k : Key) : Bool := l.any fun x => decide (x = k)
def meetK (l m : List Key) : Bool := l.any fun x => hasK m x
theorem hasK_iff {l : List Key} {k : Key} : hasK l k = true ↔ k ∈ l := by
  simp [hasK]
theorem meetK_iff {l m : List Key} : meetK l m = true ↔ ∃ k, k ∈ l ∧ k ∈ m := by
  simp [meetK, hasK_iff]
theorem hasK_take {l : List Key} {k : Key} {i : Nat} (h : i < l.length) : hasK (l.take (i + 1)) k = (hasK (l.take i) k || decide (l[i]! = k)) := by
  unfold hasK
  rw [List.take_succ_eq_append_getElem h, List.any_append, getElem!_pos l i h]
  simp only [List.any_cons, List.any_nil, Bool.or_false]
theorem meet_step_lt {u v : List Key} {a b : Key} (hv : Srt kcmp (b :: v)) (h : kcmp a b < 0) : meetK (a :: u) (b :: v) = meetK u (b :: v) := by
  rw [Bool.eq_iff_iff, meetK_iff, meetK_iff]
  refine ⟨?_, fun ⟨k, h1, h2⟩ => ⟨k, List.mem_cons_of_mem _ h1, h2⟩⟩
  rintro ⟨k, h1, h2⟩
  rcases List.mem_cons.1 h1 with rfl | h1
  · exfalso
    rcases List.mem_cons.1 h2 with rfl | h2
    · rw [kcmp_self] at h; omega
    · exact (List.pairwise_cons.1 hv).1 k h2 h
  · exact ⟨k, h1, h2⟩
theorem meetK_comm (l m : List Key) : meetK l m = meetK m l := by
  rw [Bool.eq_iff_iff, meetK_iff, meetK_iff]
  exact ⟨fun ⟨k, h1, h2⟩ => ⟨k, h2, h1⟩, fun ⟨k, h1, h2⟩ => ⟨k, h2, h1⟩⟩
theorem meetK_sort (l m : List Key) : meetK (ksort l) (ksort m) = meetK l m := by
  rw [Bool.eq_iff_iff, meetK_iff, meetK_iff]
  simp [ksort_mem]
theorem cons_of {l : List Key} (h : 0 < l.length) : l = l[0]! :: l.drop 1 := by
  match l, h with
  | a :: l, _ => rfl
section
variable {σ : St} {A B : Option Addr} {n c m d : Nat} {xs ys : List Key}
instance rule_ref_Has [h : SL σ A n c keyE xs] {k : Key} {bb : Bool} [q : BV (hasK xs k) bb] : CallRule Try.prog 23 [.slice A n c, .agg (kc k)] σ (fun K _ => ∀ σ', Nx σ σ' .no → K (.bool bb) σ') := ⟨fun K E hK => by
  have hq := q.eq; subst hq
  have hl := h.len
  have hm := h.max
  refine calls_enter Try.func23 rfl _ Try.ntmps23 rfl ?_
  (repeat (first | refine go ?_ | refine goR ?_ | refine goS (fun yc hyc => ?_) | refine goL (fun _ _ => inferInstance) ?_ | with_reducible intro _ | refine goO (by first | omega | (simp only [List.length_cons, List.length_nil]; omega)) ?_ | fail))
  refine WC.loop (fun (i : Nat) f s => At f 0 (.slice A n c) ∧ (∃ b, At f 3 (.pointer (some ⟨b, 0, none⟩)) ∧ Own s b 24 (kc k)) ∧ At f 5 (.int .i64 (i : Int)) ∧ Nx σ s .no ∧ i ≤ n ∧ hasK (xs.take i) k = false) (fun i => n - i) 0
    ⟨inferInstance, ⟨_, inferInstance, inferInstance⟩, At.to (.int .i64 0) rfl, Sub.nx (σ0 := σ) inferInstance, Nat.zero_le _, rfl⟩ ?_
  rintro i f s ⟨a0, ⟨b, a3, ho⟩, a5, hs, hi, hf⟩
  (repeat (first | refine go ?_ | refine goR ?_ | refine goS (fun yc hyc => ?_) | refine goL (fun _ _ => inferInstance) ?_ | with_reducible intro _ | refine goO (by first | omega | (simp only [List.length_cons, List.length_nil]; omega)) ?_ | fail))
  refine WC.cond ?_ ?_ <;> intro hb
  · have hlt : i < n := by simpa using hb
    haveI : IdxLt i n := ⟨hlt⟩
    haveI : Fits .i64 ((i : Int) + 1) := Fits.i64 (by omega) (by omega)
    (repeat (first | refine go ?_ | refine goR ?_ | refine goS (fun yc hyc => ?_) | refine goL (fun _ _ => inferInstance) ?_ | with_reducible intro _ | refine goO (by first | omega | (simp only [List.length_cons, List.length_nil]; omega)) ?_ | fail))
    refine WC.draw [] (.p 0 (.p 1 (.l 2 (.l 3 (.l 4 (.p 5 .nil)))))) mixed (by decide +kernel) ?_
    (repeat (first | refine go ?_ | refine goR ?_ | refine goS (fun yc hyc => ?_) | refine goL (fun _ _ => inferInstance) ?_ | with_reducible intro _ | refine goO (by first | omega | (simp only [List.length_cons, List.length_nil]; omega)) ?_ | fail))
    refine WC.cond ?_ ?_ <;> intro he
    · (repeat (first | refine go ?_ | refine goR ?_ | refine goS (fun yc hyc => ?_) | refine goL (fun _ _ => inferInstance) ?_ | with_reducible intro _ | refine goO (by first | omega | (simp only [List.length_cons, List.length_nil]; omega)) ?_ | fail))
      have he : xs[i]! = k := by simpa using he
      have : hasK xs k = true := hasK_iff.2 (by rw [← he, getElem!_pos xs i (by omega)]; exact List.getElem_mem _)
      rw [this] at hK
      exact back1 (σ0 := σ) Try.results23 (fun σ' _ _ => hK σ' inferInstance)
    · (repeat (first | refine go ?_ | refine goR ?_ | refine goS (fun yc hyc => ?_) | refine goL (fun _ _ => inferInstance) ?_ | with_reducible intro _ | refine goO (by first | omega | (simp only [List.length_cons, List.length_nil]; omega)) ?_ | fail))
      have he : ¬ xs[i]! = k := by simpa using he
      refine loop_n (i + 1) ⟨inferInstance, ⟨_, inferInstance, inferInstance⟩, At.to (.int .i64 ((i : Int) + 1)) (by simp), Sub.nx (σ0 := σ) inferInstance, hlt, by rw [hasK_take (by omega), hf]; simpa using he⟩ (by omega)
  · have : i = n := by have := hb; simp at this; omega
    subst this
    (repeat (first | refine go ?_ | refine goR ?_ | refine goS (fun yc hyc => ?_) | refine goL (fun _ _ => inferInstance) ?_ | with_reducible intro _ | refine goO (by first | omega | (simp only [List.length_cons, List.length_nil]; omega)) ?_ | fail))
    rw [List.take_of_length_le (by omega)] at hf
    rw [hf] at hK
    exact back1 (σ0 := σ) Try.results23 (fun σ' _ _ => hK σ' inferInstance)⟩

end
end Go.Proofs.Ytchdbmnikaacdaa

/- Plain facts on lists of keys: put, taken off, distinct.  -/
namespace Go.Proofs.Ytchdbmnikaacdaa
set_option linter.all false
open Go
def placeI (l : List Key) (k : Key) : Nat := match l.findIdx? (fun x => decide (x = k)) with
  | some i => i
  | none => (l.findIdx? fun x => klt k x).getD l.length
def insK (l : List Key) (k : Key) : List Key := if hasK l k then l else kput l k
def remK : List Key → Key → List Key
  | [], _ => []
  | x :: l, k => if x = k then l else x :: remK l k
def distK (l : List Key) : Bool := decide l.Nodup
theorem kput_at : ∀ (l : List Key) (k : Key), kput l k = l.take ((l.findIdx? fun x => klt k x).getD l.length) ++ k :: l.drop ((l.findIdx? fun x => klt k x).getD l.length)
  | [], k => rfl
  | x :: l, k => by
    unfold kput
    by_cases h : klt k x = true
    · simp [List.findIdx?_cons, h]
    · simp only [Bool.not_eq_true] at h
      have ih := kput_at l k
      rw [if_neg (by simp [h]), List.findIdx?_cons]
      simp only [h, Bool.false_eq_true, if_false]
      rw [ih]
      cases l.findIdx? (fun x => klt k x) <;> simp
theorem hasK_idx {l : List Key} {k : Key} : (l.findIdx? fun x => decide (x = k)).isSome = hasK l k := by
  rw [List.findIdx?_isSome]; rfl
theorem placeI_new {l : List Key} {k : Key} (h : hasK l k = false) : placeI l k = (l.findIdx? fun x => klt k x).getD l.length := by
  rw [← hasK_idx] at h
  unfold placeI
  cases h' : l.findIdx? fun x => decide (x = k) with
  | none => rfl
  | some i => rw [h'] at h; cases h
theorem placeI_le (l : List Key) (k : Key) : placeI l k ≤ l.length := by
  unfold placeI
  cases h' : l.findIdx? fun x => decide (x = k) with
  | none =>
    cases h2 : l.findIdx? fun x => klt k x with
    | none => simp
    | some i => simp only [Option.getD_some]; rw [List.findIdx?_eq_some_iff_getElem] at h2; exact Nat.le_of_lt h2.1
  | some i => simp only; rw [List.findIdx?_eq_some_iff_getElem] at h'; exact Nat.le_of_lt h'.1
theorem placeI_lt {l : List Key} {k : Key} (h : hasK l k = true) : placeI l k < l.length := by
  rw [← hasK_idx] at h
  unfold placeI
  cases h' : l.findIdx? fun x => decide (x = k) with
  | none => rw [h'] at h; cases h
  | some i => simp only; rw [List.findIdx?_eq_some_iff_getElem] at h'; exact h'.1
theorem remK_at : ∀ (l : List Key) (k : Key), hasK l k = true → remK l k = l.take (placeI l k) ++ l.drop (placeI l k + 1)
  | [], k, h => by simp [hasK] at h
  | x :: l, k, h => by
    unfold remK placeI
    by_cases e : x = k
    · simp [List.findIdx?_cons, e]
    · have h2 : hasK l k = true := by simpa [hasK, e] using h
      have ih := remK_at l k h2
      rw [if_neg e, ih]
      have h3 := h2
      rw [← hasK_idx] at h3
      unfold placeI
      rw [List.findIdx?_cons]
      cases h' : l.findIdx? (fun x => decide (x = k)) with
      | none => rw [h'] at h3; cases h3
      | some i => simp [e]
theorem remK_not : ∀ (l : List Key) (k : Key), hasK l k = false → remK l k = l
  | [], k, h => rfl
  | x :: l, k, h => by
    have h' : ¬ x = k ∧ hasK l k = false := by simpa [hasK] using h
    unfold remK
    rw [if_neg h'.1, remK_not l k h'.2]
theorem lowI_spec {α : Type} [Inhabited α] (r : α → α → Int) (xs : List α) (t : α) : lowI r xs t ≤ xs.length ∧ (∀ k, k < lowI r xs t → r xs[k]! t < 0) ∧ (lowI r xs t < xs.length → ¬ r xs[lowI r xs t]! t < 0) := by
  unfold lowI
  induction xs with
  | nil => simp
  | cons x xs ih =>
    rw [List.takeWhile_cons]
    by_cases h : r x t < 0
    · simp only [h, decide_true, if_true, List.length_cons]
      refine ⟨by omega, fun k hk => ?_, fun hl => ?_⟩
      · cases k with
        | zero => simpa using h
        | succ k => have := ih.2.1 k (by omega); simpa using this
      · have := ih.2.2 (by omega); simpa using this
    · simp [h]
/-- where a key stands, or would stand, in a sorted list -/
theorem low_place {l : List Key} {k : Key} (h : Srt kcmp l) : lowI kcmp l k = placeI l k ∧ decide (lowI kcmp l k < l.length ∧ kcmp l[lowI kcmp l k]! k = 0) = hasK l k := by
  obtain ⟨h1, h2, h3⟩ := lowI_spec kcmp l k
  have hne : ∀ x ∈ l.take (lowI kcmp l k), decide (x = k) = false := by
    intro x hx
    rw [List.mem_take_iff_getElem] at hx
    obtain ⟨j, hj, rfl⟩ := hx
    have := h2 j (by omega)
    rw [getElem!_pos l j (by omega)] at this
    simp only [decide_eq_false_iff_not]
    rintro e
    rw [e, kcmp_self] at this; omega
  by_cases hf : lowI kcmp l k < l.length ∧ kcmp l[lowI kcmp l k]! k = 0
  · have hk := kcmp_zero hf.2
    have hi := findIdx_at (p := fun x => decide (x = k)) hf.1 hne (by simpa using hk)
    have hh : hasK l k = true := by rw [← hasK_idx, hi]; rfl
    refine ⟨by unfold placeI; rw [hi], by rw [hh]; simpa using hf⟩
  · have hgt : ∀ j, lowI kcmp l k ≤ j → j < l.length → klt k l[j]! = true := by
      intro j hij hj
      have h4 : ¬ kcmp l[lowI kcmp l k]! k < 0 := h3 (by omega)
      have h5 : ¬ kcmp l[lowI kcmp l k]! k = 0 := fun e => hf ⟨by omega, e⟩
      have h6 : ¬ kcmp l[j]! k < 0 := fun e => h4 (srt_mono h hij hj e)
      have h7 : ¬ kcmp l[j]! k = 0 := by
        intro e
        have e2 := kcmp_zero e
        rcases Nat.lt_or_ge (lowI kcmp l k) j with hlt | hge
        · have h8 : ¬ kcmp l[j]! l[lowI kcmp l k]! < 0 := by
            unfold Srt at h
            rw [List.pairwise_iff_getElem] at h
            have := h (lowI kcmp l k) j (by omega) hj hlt
            rwa [getElem!_pos l j hj, getElem!_pos l _ (show lowI kcmp l k < l.length by omega)]
          rw [e2] at h8
          rw [kcmp_swap] at h8; omega
        · have : lowI kcmp l k = j := by omega
          rw [this] at h5; exact h5 e
      simp only [klt, decide_eq_true_eq]
      rw [kcmp_swap]; omega
    have hh : hasK l k = false := by
      rw [Bool.eq_false_iff]
      intro hm
      rw [hasK_iff, List.mem_iff_getElem] at hm
      obtain ⟨j, hj, e⟩ := hm
      rcases Nat.lt_or_ge j (lowI kcmp l k) with hlt | hge
      · have := hne l[j] (by rw [List.mem_take_iff_getElem]; exact ⟨j, by omega, rfl⟩)
        simp [e] at this
      · have := hgt j hge hj
        rw [getElem!_pos l j hj, e, klt_irrefl] at this; cases this
    refine ⟨?_, by rw [hh]; simpa using hf⟩
    rw [placeI_new hh]
    by_cases hl : lowI kcmp l k < l.length
    · rw [findIdx_at hl (fun x hx => ?_) (hgt _ (Nat.le_refl _) hl)]
      · rfl
      · rw [List.mem_take_iff_getElem] at hx
        obtain ⟨j, hj, rfl⟩ := hx
        have := h2 j (by omega)
        rw [getElem!_pos l j (by omega)] at this
        simp only [klt, decide_eq_false_iff_not]
        rw [kcmp_swap]; omega
    · rw [findIdx_none (fun x hx => ?_)]
      · simp; omega
      · rw [List.mem_iff_getElem] at hx
        obtain ⟨j, hj, rfl⟩ := hx
        have := h2 j (by omega)
        rw [getElem!_pos l j hj] at this
        simp only [klt, decide_eq_false_iff_not]
        rw [kcmp_swap]; omega
theorem kput_snoc : ∀ (l : List Key) (x k : Key), kput (l ++ [x]) k = if l.any (fun y => klt k y) then kput l k ++ [x] else if klt k x then l ++ [k, x] else l ++ [x, k]
  | [], x, k => by
    simp only [List.nil_append, List.any_nil, Bool.false_eq_true, if_false]
    unfold kput
    split <;> simp [kput]
  | y :: l, x, k => by
    have ih := kput_snoc l x k
    rw [List.cons_append]
    unfold kput
    by_cases h : klt k y = true
    · simp [h]
    · simp only [Bool.not_eq_true] at h
      simp only [h, Bool.false_eq_true, if_false, ih, List.any_cons, Bool.false_or]
      split
      · simp
      · split <;> simp
theorem kput_none {l : List Key} {k : Key} (h : l.any (fun y => klt k y) = false) : kput l k = l ++ [k] := by
  rw [kput_at, findIdx_none (by simpa using h)]
  simp
theorem foldl_snoc {α β : Type} (f : β → α → β) (b : β) (l : List α) (x : α) : (l ++ [x]).foldl f b = f (l.foldl f b) x := by simp
theorem remK_snoc (l : List Key) (x k : Key) : remK (l ++ [x]) k = if hasK l k then remK l k ++ [x] else if x = k then l else l ++ [x] := by
  induction l with
  | nil => simp [remK, hasK]
  | cons y l ih =>
    simp only [List.cons_append, remK]
    by_cases e : y = k
    · simp [e, hasK]
    · have : hasK (y :: l) k = hasK l k := by simp [hasK, e]
      rw [if_neg e, ih, this, if_neg e]
      split
      · simp
      · split <;> simp
theorem distK_take {l : List Key} {i : Nat} (h : i < l.length) : distK (l.take (i + 1)) = (distK (l.take i) && !hasK (l.take i) l[i]!) := by
  unfold distK
  rw [take_snoc h, Bool.eq_iff_iff]
  simp only [decide_eq_true_eq, List.nodup_append, Bool.and_eq_true, Bool.not_eq_true', List.nodup_cons, List.not_mem_nil, not_false_eq_true, List.nodup_nil, and_self, true_and, List.mem_singleton, ne_eq]
  refine and_congr_right fun _ => ?_
  rw [Bool.eq_false_iff, ne_eq, hasK_iff]
  exact ⟨fun h hm => h _ hm _ rfl rfl, fun h a ha b hb e => h (by rw [← hb, ← e]; exact ha)⟩
/-- distinct, told by neighbours once sorted -/
theorem dist_sorted {l : List Key} (h : ∀ i, 0 < i → i < (ksort l).length → ¬ (ksort l)[i]! = (ksort l)[i - 1]!) : distK l = true := by
  unfold distK
  rw [decide_eq_true_eq, ← (ksort_perm l).nodup_iff]
  have hs := ksort_srt l
  generalize ksort l = s at h hs
  unfold List.Nodup
  rw [List.pairwise_iff_getElem]
  intro i j hi hj hij e
  have h1 := h (i + 1) (by omega) (by omega)
  apply h1
  rw [Nat.add_sub_cancel]
  have h2 : ¬ kcmp s[i + 1]! s[i]! < 0 := by
    have := srt_adj' hs (show 0 < i + 1 by omega) (by omega)
    simpa using this
  have h3 : ¬ kcmp s[i]! s[i + 1]! < 0 := by
    rw [getElem!_pos s i hi, e, ← getElem!_pos s j hj]
    intro h4
    have := srt_mono hs (show i + 1 ≤ j by omega) hj (t := s[i + 1]!) h4
    rw [kcmp_self] at this; omega
  have := kcmp_swap s[i + 1]! s[i]!
  exact kcmp_zero (by omega)
theorem not_dist_sorted {l : List Key} {i : Nat} (h0 : 0 < i) (h1 : i < (ksort l).length) (e : (ksort l)[i]! = (ksort l)[i - 1]!) : distK l = false := by
  unfold distK
  rw [decide_eq_false_iff_not, ← (ksort_perm l).nodup_iff]
  intro h
  unfold List.Nodup at h
  rw [List.pairwise_iff_getElem] at h
  have := h (i - 1) i (by omega) h1 (by omega)
  rw [getElem!_pos _ i h1, getElem!_pos _ (i - 1) (by omega)] at e
  exact this e.symm
end Go.Proofs.Ytchdbmnikaacdaa

/- The reference's order of keys, by contract.  -/
set_option linter.all false
set_option maxHeartbeats 40000000
set_option synthInstance.maxHeartbeats 2000000
set_option synthInstance.maxSize 100000
namespace Go.Proofs.Ytchdbmnikaacdaa
open Go Go.RowKit
theorem lexc_diff : ∀ (a b : List UInt8) (i : Nat), i < a.length → i < b.length → a.take i = b.take i → a[i]! ≠ b[i]! → lexc a b = if a[i]! < b[i]! then -1 else 1
  | [], _, i, h, _, _, _ => by simp at h
  | _ :: _, [], i, _, h, _, _ => by simp at h
  | a :: a', b :: b', 0, _, _, _, hn => by
    simp at hn
    simp [lexc, hn]
  | a :: a', b :: b', i + 1, h1, h2, ht, hn => by
    simp at ht
    unfold lexc
    rw [if_pos ht.1, lexc_diff a' b' i (by simpa using h1) (by simpa using h2) ht.2 (by simpa using hn)]
    simp
section
variable {σ : St}
end
end Go.Proofs.Ytchdbmnikaacdaa

/- keys: place, Has, Insert, Remove, Distinct; the reference's, by contract.  -/
set_option linter.all false
set_option maxHeartbeats 40000000
set_option synthInstance.maxHeartbeats 2000000
set_option synthInstance.maxSize 100000
namespace Go.Proofs.Ytchdbmnikaacdaa
open Go Go.RowKit
section
variable {σ : St} {A B : Option Addr} {n c m d : Nat} {xs ys : List Key} {k : Key}
end
end Go.Proofs.Ytchdbmnikaacdaa

/- The reference's put, Sort, Insert, Remove, Distinct, Meet of keys, by contract.  -/
set_option linter.all false
set_option maxHeartbeats 40000000
set_option synthInstance.maxHeartbeats 2000000
set_option synthInstance.maxSize 100000
namespace Go.Proofs.Ytchdbmnikaacdaa
open Go Go.RowKit
section
variable {σ : St} {A B : Option Addr} {n c m d : Nat} {xs ys : List Key} {k : Key}
instance rule_ref_Distinct [h : SL σ A n c keyE xs] {bb : Bool} [q2 : BV (distK xs) bb] : CallRule Try.prog 15 [.slice A n c] σ (fun K _ => ∀ σ', Nx σ σ' .no → K (.bool bb) σ') := ⟨fun K E hK => by
  have hq := q2.eq; subst hq
  have hl := h.len
  have hm := h.max
  refine calls_enter Try.func15 rfl _ Try.ntmps15 rfl ?_
  (repeat (first | refine go ?_ | refine goR ?_ | refine goS (fun yc hyc => ?_) | refine goL (fun _ _ => inferInstance) ?_ | with_reducible intro _ | refine goO (by first | omega | (simp only [List.length_cons, List.length_nil]; omega)) ?_ | fail))
  refine WC.loopW 262140 .no (fun (i : Nat) f s => At f 3 (.int .i64 (i : Int)) ∧ i ≤ n ∧ distK (xs.take i) = true) (fun i => n - i) 0 ⟨At.to (.int .i64 0) rfl, Nat.zero_le _, rfl⟩ ?_
  rintro i f s ha hs ⟨a3, hi, hd⟩
  by_cases hlt : i < n
  · haveI : BV (decide ((i : Int) < (n : Int))) true := ⟨by simpa using hlt⟩
    haveI : IdxLt i n := ⟨hlt⟩
    haveI : Fits .i64 ((i : Int) + 1) := Fits.i64 (by omega) (by omega)
    have hdt := distK_take (show i < xs.length by omega)
    rw [hd, Bool.true_and] at hdt
    have e0 : (xs.drop 0).take (i - 0) = xs.take i := by simp
    cases hh : hasK (xs.take i) xs[i]! with
    | true =>
      haveI : BV (hasK ((xs.drop 0).take (i - 0)) xs[i]!) true := ⟨by rw [e0]; exact hh⟩
      (repeat (first | refine go ?_ | refine goR ?_ | refine goS (fun yc hyc => ?_) | refine goL (fun _ _ => inferInstance) ?_ | with_reducible intro _ | refine goO (by first | omega | (simp only [List.length_cons, List.length_nil]; omega)) ?_ | fail))
      refine WC.draw [] (.p 0 (.p 1 (.l 2 (.p 3 (.p 4 (.l 5 (.l 6 (.h 7 .nil)))))))) mixed (by decide +kernel) ?_
      (repeat (first | refine go ?_ | refine goR ?_ | refine goS (fun yc hyc => ?_) | refine goL (fun _ _ => inferInstance) ?_ | with_reducible intro _ | refine goO (by first | omega | (simp only [List.length_cons, List.length_nil]; omega)) ?_ | fail))
      have : distK xs = false := by
        rw [hh] at hdt
        unfold distK at hdt ⊢
        simp only [Bool.not_true, decide_eq_false_iff_not] at hdt ⊢
        exact fun h => hdt (h.sublist (List.take_sublist _ _))
      rw [this] at hK
      exact back1 (σ0 := σ) Try.results15 (fun σ' _ _ => hK σ' inferInstance)
    | false =>
      haveI : BV (hasK ((xs.drop 0).take (i - 0)) xs[i]!) false := ⟨by rw [e0]; exact hh⟩
      (repeat (first | refine go ?_ | refine goR ?_ | refine goS (fun yc hyc => ?_) | refine goL (fun _ _ => inferInstance) ?_ | with_reducible intro _ | refine goO (by first | omega | (simp only [List.length_cons, List.length_nil]; omega)) ?_ | fail))
      refine WC.draw [] (.p 0 (.p 1 (.l 2 (.p 3 (.p 4 (.l 5 (.l 6 (.h 7 .nil)))))))) mixed (by decide +kernel) ?_
      (repeat (first | refine go ?_ | refine goR ?_ | refine goS (fun yc hyc => ?_) | refine goL (fun _ _ => inferInstance) ?_ | with_reducible intro _ | refine goO (by first | omega | (simp only [List.length_cons, List.length_nil]; omega)) ?_ | fail))
      refine loop_w (i + 1) ⟨At.to (.int .i64 ((i : Int) + 1)) (by simp), hlt, by rw [hdt, hh]; rfl⟩ (by omega)
  · haveI : BV (decide ((i : Int) < (n : Int))) false := ⟨by simpa using hlt⟩
    rw [take_all (by omega)] at hd
    rw [hd] at hK
    (repeat (first | refine go ?_ | refine goR ?_ | refine goS (fun yc hyc => ?_) | refine goL (fun _ _ => inferInstance) ?_ | with_reducible intro _ | refine goO (by first | omega | (simp only [List.length_cons, List.length_nil]; omega)) ?_ | fail))
    exact back1 (σ0 := σ) Try.results15 (fun σ' _ _ => hK σ' inferInstance)⟩
end
end Go.Proofs.Ytchdbmnikaacdaa

/- check.Check, Fight, and the reference's, by contract.  (Printed by gen_h2.py.) -/
set_option linter.all false
set_option maxHeartbeats 40000000
set_option synthInstance.maxHeartbeats 2000000
set_option synthInstance.maxSize 100000
namespace Go.Proofs.Ytchdbmnikaacdaa
open Go Go.RowKit
def emptyB (t : Tx) : Bool := (decide (t.ins.n = 0) && decide (t.nulls.n = 0)) || (decide (t.outs.n = 0) && decide (t.notes.n = 0))
def coinB (t : Tx) (base : Bool) : Bool := if base then !cbM t || decide (0 < t.nulls.n) else zeroM t
def repB (t : Tx) : Bool := !ptD t.ins.l || !distK t.nulls.l
def moneyB (t : Tx) : Bool := (sumM (valsM t)).isNone || decide (2100000000000000 < t.bal.toInt) || decide (t.bal.toInt < -2100000000000000) || (decide (0 < t.bal.toInt) && decide (t.nulls.n = 0)) || (decide (t.bal.toInt < 0) && decide (t.notes.n = 0))
def errsM : List (Bool × Int) → Int
  | [] => 0
  | (b, e) :: l => if b then e else errsM l
/-- what may not be of a transaction -/
def chkM (t : Tx) (base : Bool) : Int := if encE t = 0 then errsM [(emptyB t, 110), (coinB t base, 112), (repB t, 111), (moneyB t, 20)] else encE t
def fightM (a b : Tx) : Bool := (a.ins.l.any fun p => b.ins.l.any fun x => decide (x = p)) || meetK a.nulls.l b.nulls.l
class SmallT (t : Tx) : Prop where
  h : t.ins.n ≤ 1000 ∧ t.outs.n ≤ 1000 ∧ t.nulls.n ≤ 1000 ∧ t.notes.n ≤ 1000
theorem small_enc {t : Tx} (h : encE t = 0) : SmallT t := ⟨by
  unfold encE at h
  split at h
  · cases h
  · rename_i h1
    rw [maxL4] at h1; omega⟩
section
variable {σ : St} {v1 v2 : Value} {t u : Tx} {base : Bool}
end
end Go.Proofs.Ytchdbmnikaacdaa

/- check.Check, Fight, and the reference's, by contract.  (Printed by gen_h3.py.) -/
set_option linter.all false
set_option maxHeartbeats 40000000
set_option synthInstance.maxHeartbeats 2000000
set_option synthInstance.maxSize 100000
namespace Go.Proofs.Ytchdbmnikaacdaa
open Go Go.RowKit
theorem cbM_zero {t : Tx} (h : cbM t = true) : zeroM t = true := by
  unfold cbM at h
  rw [Bool.and_eq_true, decide_eq_true_eq, decide_eq_true_eq] at h
  unfold zeroM
  rw [List.any_eq_true]
  exact ⟨t.ins.l[0]!, by rw [getElem!_pos _ 0 (by omega)]; exact List.getElem_mem _, by simpa using h.2⟩
def FL (t : Tx) (base : Bool) : List (Bool × Int) := [(emptyB t, 110), (coinB t base, 112), (repB t, 111), (moneyB t, 20)]
section
variable {σ : St} {v1 v2 : Value} {t u : Tx} {base : Bool}
instance rule_ref_Check [h : EncV σ txE v1 t] {e : Int} [q : Is (chkM t base) e] : CallRule Try.prog 7 [v1, .bool base] σ (fun K _ => ∀ σ', Nx σ σ' .no → K (.int .i64 e) σ') := ⟨fun K E hK => by
  have hq := q.eq; subst hq
  have e1 : v1 = .agg (cats [#[.int .u32 (t.exp.toNat : Int)], #[.slice t.ins.A t.ins.n t.ins.c], #[.slice t.outs.A t.outs.n t.outs.c], kc t.anchor, #[.slice t.nulls.A t.nulls.n t.nulls.c], #[.slice t.notes.A t.notes.n t.notes.c], #[.int .i64 t.bal.toInt]]) := h.eq
  subst e1
  haveI : OkE σ txE t := ⟨h.ok⟩
  have hl1 := (inferInstance : SL σ t.ins.A t.ins.n t.ins.c ptE t.ins.l).len
  have hl2 := (inferInstance : SL σ t.outs.A t.outs.n t.outs.c otE t.outs.l).len
  have hl3 := (inferInstance : SL σ t.nulls.A t.nulls.n t.nulls.c keyE t.nulls.l).len
  have hl4 := (inferInstance : SL σ t.notes.A t.notes.n t.notes.c keyE t.notes.l).len
  by_cases he : encE t = 0
  · skip
    haveI := small_enc he
    have hsm := (small_enc he).h
    haveI : Is (encE t) 0 := ⟨he⟩
    have hvl : (valsM t).length = t.outs.n := by simp [valsM]; omega
    haveI : Fits .i64 ((t.ins.n : Int) + (t.nulls.n : Int)) := Fits.i64 (by omega) (by omega)
    haveI : Fits .i64 ((t.outs.n : Int) + (t.notes.n : Int)) := Fits.i64 (by omega) (by omega)
    by_cases hA : t.ins.n + t.nulls.n = 0
    · skip
      haveI : BV (decide ((((t.ins.n : Int) + (t.nulls.n : Int)) = 0))) true := ⟨decide_eq_true (by omega)⟩
      have e : chkM t base = 110 := by
        have hem : emptyB t = true := (by unfold emptyB; simp; omega)
        simp [chkM, errsM, he, hem]
      rw [e] at hK
      refine calls_enter Try.func7 rfl _ Try.ntmps7 rfl ?_
      (repeat (first | refine go ?_ | refine goR ?_ | refine goS (fun yc hyc => ?_) | refine goL (fun _ _ => inferInstance) ?_ | with_reducible intro _ | refine goO (by first | omega | (simp only [List.length_cons, List.length_nil]; omega)) ?_ | fail))
      exact backN (σ0 := σ) Try.results7 (fun σ' _ _ => hK σ' inferInstance)
    · skip
      haveI : BV (decide ((((t.ins.n : Int) + (t.nulls.n : Int)) = 0))) false := ⟨decide_eq_false (by omega)⟩
      by_cases hB : t.outs.n + t.notes.n = 0
      · skip
        haveI : BV (decide ((((t.outs.n : Int) + (t.notes.n : Int)) = 0))) true := ⟨decide_eq_true (by omega)⟩
        have e : chkM t base = 110 := by
          have hem : emptyB t = true := (by unfold emptyB; simp; omega)
          simp [chkM, errsM, he, hem]
        rw [e] at hK
        refine calls_enter Try.func7 rfl _ Try.ntmps7 rfl ?_
        (repeat (first | refine go ?_ | refine goR ?_ | refine goS (fun yc hyc => ?_) | refine goL (fun _ _ => inferInstance) ?_ | with_reducible intro _ | refine goO (by first | omega | (simp only [List.length_cons, List.length_nil]; omega)) ?_ | fail))
        exact backN (σ0 := σ) Try.results7 (fun σ' _ _ => hK σ' inferInstance)
      · skip
        haveI : BV (decide ((((t.outs.n : Int) + (t.notes.n : Int)) = 0))) false := ⟨decide_eq_false (by omega)⟩
        have hem : emptyB t = false := by unfold emptyB; simp; omega
        cases base with
        | false =>
          cases hc : cbM t with
          | false =>
            haveI : BV (cbM t) false := ⟨hc⟩
            cases hz : zeroM t with
            | true =>
              haveI : BV (zeroM t) true := ⟨hz⟩
              have e : chkM t false = 112 := by
                have hco : coinB t false = true := hz
                simp [chkM, errsM, he, hem, hco]
              rw [e] at hK
              refine calls_enter Try.func7 rfl _ Try.ntmps7 rfl ?_
              (repeat (first | refine go ?_ | refine goR ?_ | refine goS (fun yc hyc => ?_) | refine goL (fun _ _ => inferInstance) ?_ | with_reducible intro _ | refine goO (by first | omega | (simp only [List.length_cons, List.length_nil]; omega)) ?_ | fail))
              exact backN (σ0 := σ) Try.results7 (fun σ' _ _ => hK σ' inferInstance)
            | false =>
              haveI : BV (zeroM t) false := ⟨hz⟩
              have hco : coinB t false = false := by exact hz
              cases hp : ptD t.ins.l with
              | false =>
                haveI : BV (ptD t.ins.l) false := ⟨hp⟩
                have e : chkM t false = 111 := by
                  have hre : repB t = true := (by unfold repB; simp [hp])
                  simp [chkM, errsM, he, hem, hco, hre]
                rw [e] at hK
                refine calls_enter Try.func7 rfl _ Try.ntmps7 rfl ?_
                (repeat (first | refine go ?_ | refine goR ?_ | refine goS (fun yc hyc => ?_) | refine goL (fun _ _ => inferInstance) ?_ | with_reducible intro _ | refine goO (by first | omega | (simp only [List.length_cons, List.length_nil]; omega)) ?_ | fail))
                exact backN (σ0 := σ) Try.results7 (fun σ' _ _ => hK σ' inferInstance)
              | true =>
                haveI : BV (ptD t.ins.l) true := ⟨hp⟩
                cases hd : distK t.nulls.l with
                | false =>
                  haveI : BV (distK t.nulls.l) false := ⟨hd⟩
                  have e : chkM t false = 111 := by
                    have hre : repB t = true := (by unfold repB; simp [hd])
                    simp [chkM, errsM, he, hem, hco, hre]
                  rw [e] at hK
                  refine calls_enter Try.func7 rfl _ Try.ntmps7 rfl ?_
                  (repeat (first | refine go ?_ | refine goR ?_ | refine goS (fun yc hyc => ?_) | refine goL (fun _ _ => inferInstance) ?_ | with_reducible intro _ | refine goO (by first | omega | (simp only [List.length_cons, List.length_nil]; omega)) ?_ | fail))
                  exact backN (σ0 := σ) Try.results7 (fun σ' _ _ => hK σ' inferInstance)
                | true =>
                  haveI : BV (distK t.nulls.l) true := ⟨hd⟩
                  have hre : repB t = false := by unfold repB; simp [hp, hd]
                  cases hs : sumM (valsM t) with
                  | none =>
                    haveI : Is (sumM (valsM t)) none := ⟨hs⟩
                    have e : chkM t false = 20 := by
                      have hmo : moneyB t = true := (by unfold moneyB; simp [hs]; try omega)
                      simp [chkM, errsM, he, hem, hco, hre, hmo]
                    rw [e] at hK
                    refine calls_enter Try.func7 rfl _ Try.ntmps7 rfl ?_
                    (repeat (first | refine go ?_ | refine goR ?_ | refine goS (fun yc hyc => ?_) | refine goL (fun _ _ => inferInstance) ?_ | with_reducible intro _ | refine goO (by first | omega | (simp only [List.length_cons, List.length_nil]; omega)) ?_ | fail))
                    exact backN (σ0 := σ) Try.results7 (fun σ' _ _ => hK σ' inferInstance)
                  | some r =>
                    haveI : Is (sumM (valsM t)) (some r) := ⟨hs⟩
                    by_cases g1 : t.bal.toInt < -2100000000000000
                    · skip
                      haveI : BV (decide (((t.bal.toInt : Int) < -2100000000000000))) true := ⟨decide_eq_true (by omega)⟩
                      haveI : BV (decide (((-2100000000000000 : Int) > (t.bal.toInt : Int)))) true := ⟨decide_eq_true (by omega)⟩
                      have e : chkM t false = 20 := by
                        have hmo : moneyB t = true := (by unfold moneyB; simp [hs]; try omega)
                        simp [chkM, errsM, he, hem, hco, hre, hmo]
                      rw [e] at hK
                      refine calls_enter Try.func7 rfl _ Try.ntmps7 rfl ?_
                      (repeat (first | refine go ?_ | refine goR ?_ | refine goS (fun yc hyc => ?_) | refine goL (fun _ _ => inferInstance) ?_ | with_reducible intro _ | refine goO (by first | omega | (simp only [List.length_cons, List.length_nil]; omega)) ?_ | fail))
                      exact backN (σ0 := σ) Try.results7 (fun σ' _ _ => hK σ' inferInstance)
                    · skip
                      haveI : BV (decide (((t.bal.toInt : Int) < -2100000000000000))) false := ⟨decide_eq_false (by omega)⟩
                      haveI : BV (decide (((-2100000000000000 : Int) > (t.bal.toInt : Int)))) false := ⟨decide_eq_false (by omega)⟩
                      by_cases g2 : 2100000000000000 < t.bal.toInt
                      · skip
                        haveI : BV (decide (((t.bal.toInt : Int) > 2100000000000000))) true := ⟨decide_eq_true (by omega)⟩
                        haveI : BV (decide (((2100000000000000 : Int) < (t.bal.toInt : Int)))) true := ⟨decide_eq_true (by omega)⟩
                        have e : chkM t false = 20 := by
                          have hmo : moneyB t = true := (by unfold moneyB; simp [hs]; try omega)
                          simp [chkM, errsM, he, hem, hco, hre, hmo]
                        rw [e] at hK
                        refine calls_enter Try.func7 rfl _ Try.ntmps7 rfl ?_
                        (repeat (first | refine go ?_ | refine goR ?_ | refine goS (fun yc hyc => ?_) | refine goL (fun _ _ => inferInstance) ?_ | with_reducible intro _ | refine goO (by first | omega | (simp only [List.length_cons, List.length_nil]; omega)) ?_ | fail))
                        exact backN (σ0 := σ) Try.results7 (fun σ' _ _ => hK σ' inferInstance)
                      · skip
                        haveI : BV (decide (((t.bal.toInt : Int) > 2100000000000000))) false := ⟨decide_eq_false (by omega)⟩
                        haveI : BV (decide (((2100000000000000 : Int) < (t.bal.toInt : Int)))) false := ⟨decide_eq_false (by omega)⟩
                        by_cases g3 : 0 < t.bal.toInt
                        · skip
                          haveI : BV (decide (((t.bal.toInt : Int) > 0))) true := ⟨decide_eq_true (by omega)⟩
                          haveI : BV (decide (((0 : Int) < (t.bal.toInt : Int)))) true := ⟨decide_eq_true (by omega)⟩
                          by_cases g5 : t.nulls.n = 0
                          · skip
                            haveI : BV (decide (((t.nulls.n : Int) = 0))) true := ⟨decide_eq_true (by omega)⟩
                            have e : chkM t false = 20 := by
                              have hmo : moneyB t = true := (by unfold moneyB; simp [hs]; try omega)
                              simp [chkM, errsM, he, hem, hco, hre, hmo]
                            rw [e] at hK
                            refine calls_enter Try.func7 rfl _ Try.ntmps7 rfl ?_
                            (repeat (first | refine go ?_ | refine goR ?_ | refine goS (fun yc hyc => ?_) | refine goL (fun _ _ => inferInstance) ?_ | with_reducible intro _ | refine goO (by first | omega | (simp only [List.length_cons, List.length_nil]; omega)) ?_ | fail))
                            exact backN (σ0 := σ) Try.results7 (fun σ' _ _ => hK σ' inferInstance)
                          · skip
                            haveI : BV (decide (((t.nulls.n : Int) = 0))) false := ⟨decide_eq_false (by omega)⟩
                            haveI : BV (decide (((t.bal.toInt : Int) < 0))) false := ⟨decide_eq_false (by omega)⟩
                            haveI : BV (decide (((0 : Int) > (t.bal.toInt : Int)))) false := ⟨decide_eq_false (by omega)⟩
                            have e : chkM t false = 0 := by
                              have hmo : moneyB t = false := (by unfold moneyB; simp [hs]; try omega)
                              simp [chkM, errsM, he, hem, hco, hre, hmo]
                            rw [e] at hK
                            refine calls_enter Try.func7 rfl _ Try.ntmps7 rfl ?_
                            (repeat (first | refine go ?_ | refine goR ?_ | refine goS (fun yc hyc => ?_) | refine goL (fun _ _ => inferInstance) ?_ | with_reducible intro _ | refine goO (by first | omega | (simp only [List.length_cons, List.length_nil]; omega)) ?_ | fail))
                            exact backN (σ0 := σ) Try.results7 (fun σ' _ _ => hK σ' inferInstance)
                        · skip
                          haveI : BV (decide (((t.bal.toInt : Int) > 0))) false := ⟨decide_eq_false (by omega)⟩
                          haveI : BV (decide (((0 : Int) < (t.bal.toInt : Int)))) false := ⟨decide_eq_false (by omega)⟩
                          by_cases g4 : t.bal.toInt < 0
                          · skip
                            haveI : BV (decide (((t.bal.toInt : Int) < 0))) true := ⟨decide_eq_true (by omega)⟩
                            haveI : BV (decide (((0 : Int) > (t.bal.toInt : Int)))) true := ⟨decide_eq_true (by omega)⟩
                            by_cases g5 : t.notes.n = 0
                            · skip
                              haveI : BV (decide (((t.notes.n : Int) = 0))) true := ⟨decide_eq_true (by omega)⟩
                              have e : chkM t false = 20 := by
                                have hmo : moneyB t = true := (by unfold moneyB; simp [hs]; try omega)
                                simp [chkM, errsM, he, hem, hco, hre, hmo]
                              rw [e] at hK
                              refine calls_enter Try.func7 rfl _ Try.ntmps7 rfl ?_
                              (repeat (first | refine go ?_ | refine goR ?_ | refine goS (fun yc hyc => ?_) | refine goL (fun _ _ => inferInstance) ?_ | with_reducible intro _ | refine goO (by first | omega | (simp only [List.length_cons, List.length_nil]; omega)) ?_ | fail))
                              exact backN (σ0 := σ) Try.results7 (fun σ' _ _ => hK σ' inferInstance)
                            · skip
                              haveI : BV (decide (((t.notes.n : Int) = 0))) false := ⟨decide_eq_false (by omega)⟩
                              have e : chkM t false = 0 := by
                                have hmo : moneyB t = false := (by unfold moneyB; simp [hs]; try omega)
                                simp [chkM, errsM, he, hem, hco, hre, hmo]
                              rw [e] at hK
                              refine calls_enter Try.func7 rfl _ Try.ntmps7 rfl ?_
                              (repeat (first | refine go ?_ | refine goR ?_ | refine goS (fun yc hyc => ?_) | refine goL (fun _ _ => inferInstance) ?_ | with_reducible intro _ | refine goO (by first | omega | (simp only [List.length_cons, List.length_nil]; omega)) ?_ | fail))
                              exact backN (σ0 := σ) Try.results7 (fun σ' _ _ => hK σ' inferInstance)
                          · skip
                            haveI : BV (decide (((t.bal.toInt : Int) < 0))) false := ⟨decide_eq_false (by omega)⟩
                            haveI : BV (decide (((0 : Int) > (t.bal.toInt : Int)))) false := ⟨decide_eq_false (by omega)⟩
                            have e : chkM t false = 0 := by
                              have hmo : moneyB t = false := (by unfold moneyB; simp [hs]; try omega)
                              simp [chkM, errsM, he, hem, hco, hre, hmo]
                            rw [e] at hK
                            refine calls_enter Try.func7 rfl _ Try.ntmps7 rfl ?_
                            (repeat (first | refine go ?_ | refine goR ?_ | refine goS (fun yc hyc => ?_) | refine goL (fun _ _ => inferInstance) ?_ | with_reducible intro _ | refine goO (by first | omega | (simp only [List.length_cons, List.length_nil]; omega)) ?_ | fail))
                            exact backN (σ0 := σ) Try.results7 (fun σ' _ _ => hK σ' inferInstance)
          | true =>
            haveI : BV (cbM t) true := ⟨hc⟩
            have e : chkM t false = 112 := by
              have hco : coinB t false = true := cbM_zero hc
              simp [chkM, errsM, he, hem, hco]
            rw [e] at hK
            refine calls_enter Try.func7 rfl _ Try.ntmps7 rfl ?_
            (repeat (first | refine go ?_ | refine goR ?_ | refine goS (fun yc hyc => ?_) | refine goL (fun _ _ => inferInstance) ?_ | with_reducible intro _ | refine goO (by first | omega | (simp only [List.length_cons, List.length_nil]; omega)) ?_ | fail))
            exact backN (σ0 := σ) Try.results7 (fun σ' _ _ => hK σ' inferInstance)
        | true =>
          cases hc : cbM t with
          | false =>
            haveI : BV (cbM t) false := ⟨hc⟩
            have e : chkM t true = 112 := by
              have hco : coinB t true = true := (by unfold coinB; simp [hc])
              simp [chkM, errsM, he, hem, hco]
            rw [e] at hK
            refine calls_enter Try.func7 rfl _ Try.ntmps7 rfl ?_
            (repeat (first | refine go ?_ | refine goR ?_ | refine goS (fun yc hyc => ?_) | refine goL (fun _ _ => inferInstance) ?_ | with_reducible intro _ | refine goO (by first | omega | (simp only [List.length_cons, List.length_nil]; omega)) ?_ | fail))
            exact backN (σ0 := σ) Try.results7 (fun σ' _ _ => hK σ' inferInstance)
          | true =>
            haveI : BV (cbM t) true := ⟨hc⟩
            by_cases hn : 0 < t.nulls.n
            · skip
              haveI : BV (decide (((t.nulls.n : Int) > 0))) true := ⟨decide_eq_true (by omega)⟩
              haveI : BV (decide (((0 : Int) < (t.nulls.n : Int)))) true := ⟨decide_eq_true (by omega)⟩
              have e : chkM t true = 112 := by
                have hco : coinB t true = true := (by unfold coinB; simp [hn])
                simp [chkM, errsM, he, hem, hco]
              rw [e] at hK
              refine calls_enter Try.func7 rfl _ Try.ntmps7 rfl ?_
              (repeat (first | refine go ?_ | refine goR ?_ | refine goS (fun yc hyc => ?_) | refine goL (fun _ _ => inferInstance) ?_ | with_reducible intro _ | refine goO (by first | omega | (simp only [List.length_cons, List.length_nil]; omega)) ?_ | fail))
              exact backN (σ0 := σ) Try.results7 (fun σ' _ _ => hK σ' inferInstance)
            · skip
              haveI : BV (decide (((t.nulls.n : Int) > 0))) false := ⟨decide_eq_false (by omega)⟩
              haveI : BV (decide (((0 : Int) < (t.nulls.n : Int)))) false := ⟨decide_eq_false (by omega)⟩
              have hco : coinB t true = false := by unfold coinB; simp [hc]; omega
              cases hp : ptD t.ins.l with
              | false =>
                haveI : BV (ptD t.ins.l) false := ⟨hp⟩
                have e : chkM t true = 111 := by
                  have hre : repB t = true := (by unfold repB; simp [hp])
                  simp [chkM, errsM, he, hem, hco, hre]
                rw [e] at hK
                refine calls_enter Try.func7 rfl _ Try.ntmps7 rfl ?_
                (repeat (first | refine go ?_ | refine goR ?_ | refine goS (fun yc hyc => ?_) | refine goL (fun _ _ => inferInstance) ?_ | with_reducible intro _ | refine goO (by first | omega | (simp only [List.length_cons, List.length_nil]; omega)) ?_ | fail))
                exact backN (σ0 := σ) Try.results7 (fun σ' _ _ => hK σ' inferInstance)
              | true =>
                haveI : BV (ptD t.ins.l) true := ⟨hp⟩
                cases hd : distK t.nulls.l with
                | false =>
                  haveI : BV (distK t.nulls.l) false := ⟨hd⟩
                  have e : chkM t true = 111 := by
                    have hre : repB t = true := (by unfold repB; simp [hd])
                    simp [chkM, errsM, he, hem, hco, hre]
                  rw [e] at hK
                  refine calls_enter Try.func7 rfl _ Try.ntmps7 rfl ?_
                  (repeat (first | refine go ?_ | refine goR ?_ | refine goS (fun yc hyc => ?_) | refine goL (fun _ _ => inferInstance) ?_ | with_reducible intro _ | refine goO (by first | omega | (simp only [List.length_cons, List.length_nil]; omega)) ?_ | fail))
                  exact backN (σ0 := σ) Try.results7 (fun σ' _ _ => hK σ' inferInstance)
                | true =>
                  haveI : BV (distK t.nulls.l) true := ⟨hd⟩
                  have hre : repB t = false := by unfold repB; simp [hp, hd]
                  cases hs : sumM (valsM t) with
                  | none =>
                    haveI : Is (sumM (valsM t)) none := ⟨hs⟩
                    have e : chkM t true = 20 := by
                      have hmo : moneyB t = true := (by unfold moneyB; simp [hs]; try omega)
                      simp [chkM, errsM, he, hem, hco, hre, hmo]
                    rw [e] at hK
                    refine calls_enter Try.func7 rfl _ Try.ntmps7 rfl ?_
                    (repeat (first | refine go ?_ | refine goR ?_ | refine goS (fun yc hyc => ?_) | refine goL (fun _ _ => inferInstance) ?_ | with_reducible intro _ | refine goO (by first | omega | (simp only [List.length_cons, List.length_nil]; omega)) ?_ | fail))
                    exact backN (σ0 := σ) Try.results7 (fun σ' _ _ => hK σ' inferInstance)
                  | some r =>
                    haveI : Is (sumM (valsM t)) (some r) := ⟨hs⟩
                    by_cases g1 : t.bal.toInt < -2100000000000000
                    · skip
                      haveI : BV (decide (((t.bal.toInt : Int) < -2100000000000000))) true := ⟨decide_eq_true (by omega)⟩
                      haveI : BV (decide (((-2100000000000000 : Int) > (t.bal.toInt : Int)))) true := ⟨decide_eq_true (by omega)⟩
                      have e : chkM t true = 20 := by
                        have hmo : moneyB t = true := (by unfold moneyB; simp [hs]; try omega)
                        simp [chkM, errsM, he, hem, hco, hre, hmo]
                      rw [e] at hK
                      refine calls_enter Try.func7 rfl _ Try.ntmps7 rfl ?_
                      (repeat (first | refine go ?_ | refine goR ?_ | refine goS (fun yc hyc => ?_) | refine goL (fun _ _ => inferInstance) ?_ | with_reducible intro _ | refine goO (by first | omega | (simp only [List.length_cons, List.length_nil]; omega)) ?_ | fail))
                      exact backN (σ0 := σ) Try.results7 (fun σ' _ _ => hK σ' inferInstance)
                    · skip
                      haveI : BV (decide (((t.bal.toInt : Int) < -2100000000000000))) false := ⟨decide_eq_false (by omega)⟩
                      haveI : BV (decide (((-2100000000000000 : Int) > (t.bal.toInt : Int)))) false := ⟨decide_eq_false (by omega)⟩
                      by_cases g2 : 2100000000000000 < t.bal.toInt
                      · skip
                        haveI : BV (decide (((t.bal.toInt : Int) > 2100000000000000))) true := ⟨decide_eq_true (by omega)⟩
                        haveI : BV (decide (((2100000000000000 : Int) < (t.bal.toInt : Int)))) true := ⟨decide_eq_true (by omega)⟩
                        have e : chkM t true = 20 := by
                          have hmo : moneyB t = true := (by unfold moneyB; simp [hs]; try omega)
                          simp [chkM, errsM, he, hem, hco, hre, hmo]
                        rw [e] at hK
                        refine calls_enter Try.func7 rfl _ Try.ntmps7 rfl ?_
                        (repeat (first | refine go ?_ | refine goR ?_ | refine goS (fun yc hyc => ?_) | refine goL (fun _ _ => inferInstance) ?_ | with_reducible intro _ | refine goO (by first | omega | (simp only [List.length_cons, List.length_nil]; omega)) ?_ | fail))
                        exact backN (σ0 := σ) Try.results7 (fun σ' _ _ => hK σ' inferInstance)
                      · skip
                        haveI : BV (decide (((t.bal.toInt : Int) > 2100000000000000))) false := ⟨decide_eq_false (by omega)⟩
                        haveI : BV (decide (((2100000000000000 : Int) < (t.bal.toInt : Int)))) false := ⟨decide_eq_false (by omega)⟩
                        by_cases g3 : 0 < t.bal.toInt
                        · skip
                          haveI : BV (decide (((t.bal.toInt : Int) > 0))) true := ⟨decide_eq_true (by omega)⟩
                          haveI : BV (decide (((0 : Int) < (t.bal.toInt : Int)))) true := ⟨decide_eq_true (by omega)⟩
                          by_cases g5 : t.nulls.n = 0
                          · skip
                            haveI : BV (decide (((t.nulls.n : Int) = 0))) true := ⟨decide_eq_true (by omega)⟩
                            have e : chkM t true = 20 := by
                              have hmo : moneyB t = true := (by unfold moneyB; simp [hs]; try omega)
                              simp [chkM, errsM, he, hem, hco, hre, hmo]
                            rw [e] at hK
                            refine calls_enter Try.func7 rfl _ Try.ntmps7 rfl ?_
                            (repeat (first | refine go ?_ | refine goR ?_ | refine goS (fun yc hyc => ?_) | refine goL (fun _ _ => inferInstance) ?_ | with_reducible intro _ | refine goO (by first | omega | (simp only [List.length_cons, List.length_nil]; omega)) ?_ | fail))
                            exact backN (σ0 := σ) Try.results7 (fun σ' _ _ => hK σ' inferInstance)
                          · skip
                            haveI : BV (decide (((t.nulls.n : Int) = 0))) false := ⟨decide_eq_false (by omega)⟩
                            haveI : BV (decide (((t.bal.toInt : Int) < 0))) false := ⟨decide_eq_false (by omega)⟩
                            haveI : BV (decide (((0 : Int) > (t.bal.toInt : Int)))) false := ⟨decide_eq_false (by omega)⟩
                            have e : chkM t true = 0 := by
                              have hmo : moneyB t = false := (by unfold moneyB; simp [hs]; try omega)
                              simp [chkM, errsM, he, hem, hco, hre, hmo]
                            rw [e] at hK
                            refine calls_enter Try.func7 rfl _ Try.ntmps7 rfl ?_
                            (repeat (first | refine go ?_ | refine goR ?_ | refine goS (fun yc hyc => ?_) | refine goL (fun _ _ => inferInstance) ?_ | with_reducible intro _ | refine goO (by first | omega | (simp only [List.length_cons, List.length_nil]; omega)) ?_ | fail))
                            exact backN (σ0 := σ) Try.results7 (fun σ' _ _ => hK σ' inferInstance)
                        · skip
                          haveI : BV (decide (((t.bal.toInt : Int) > 0))) false := ⟨decide_eq_false (by omega)⟩
                          haveI : BV (decide (((0 : Int) < (t.bal.toInt : Int)))) false := ⟨decide_eq_false (by omega)⟩
                          by_cases g4 : t.bal.toInt < 0
                          · skip
                            haveI : BV (decide (((t.bal.toInt : Int) < 0))) true := ⟨decide_eq_true (by omega)⟩
                            haveI : BV (decide (((0 : Int) > (t.bal.toInt : Int)))) true := ⟨decide_eq_true (by omega)⟩
                            by_cases g5 : t.notes.n = 0
                            · skip
                              haveI : BV (decide (((t.notes.n : Int) = 0))) true := ⟨decide_eq_true (by omega)⟩
                              have e : chkM t true = 20 := by
                                have hmo : moneyB t = true := (by unfold moneyB; simp [hs]; try omega)
                                simp [chkM, errsM, he, hem, hco, hre, hmo]
                              rw [e] at hK
                              refine calls_enter Try.func7 rfl _ Try.ntmps7 rfl ?_
                              (repeat (first | refine go ?_ | refine goR ?_ | refine goS (fun yc hyc => ?_) | refine goL (fun _ _ => inferInstance) ?_ | with_reducible intro _ | refine goO (by first | omega | (simp only [List.length_cons, List.length_nil]; omega)) ?_ | fail))
                              exact backN (σ0 := σ) Try.results7 (fun σ' _ _ => hK σ' inferInstance)
                            · skip
                              haveI : BV (decide (((t.notes.n : Int) = 0))) false := ⟨decide_eq_false (by omega)⟩
                              have e : chkM t true = 0 := by
                                have hmo : moneyB t = false := (by unfold moneyB; simp [hs]; try omega)
                                simp [chkM, errsM, he, hem, hco, hre, hmo]
                              rw [e] at hK
                              refine calls_enter Try.func7 rfl _ Try.ntmps7 rfl ?_
                              (repeat (first | refine go ?_ | refine goR ?_ | refine goS (fun yc hyc => ?_) | refine goL (fun _ _ => inferInstance) ?_ | with_reducible intro _ | refine goO (by first | omega | (simp only [List.length_cons, List.length_nil]; omega)) ?_ | fail))
                              exact backN (σ0 := σ) Try.results7 (fun σ' _ _ => hK σ' inferInstance)
                          · skip
                            haveI : BV (decide (((t.bal.toInt : Int) < 0))) false := ⟨decide_eq_false (by omega)⟩
                            haveI : BV (decide (((0 : Int) > (t.bal.toInt : Int)))) false := ⟨decide_eq_false (by omega)⟩
                            have e : chkM t true = 0 := by
                              have hmo : moneyB t = false := (by unfold moneyB; simp [hs]; try omega)
                              simp [chkM, errsM, he, hem, hco, hre, hmo]
                            rw [e] at hK
                            refine calls_enter Try.func7 rfl _ Try.ntmps7 rfl ?_
                            (repeat (first | refine go ?_ | refine goR ?_ | refine goS (fun yc hyc => ?_) | refine goL (fun _ _ => inferInstance) ?_ | with_reducible intro _ | refine goO (by first | omega | (simp only [List.length_cons, List.length_nil]; omega)) ?_ | fail))
                            exact backN (σ0 := σ) Try.results7 (fun σ' _ _ => hK σ' inferInstance)
  · skip
    haveI : BV (decide (encE t = 0)) false := ⟨decide_eq_false he⟩
    have e : chkM t base = encE t := by
      unfold chkM; rw [if_neg he]
    rw [e] at hK
    refine calls_enter Try.func7 rfl _ Try.ntmps7 rfl ?_
    (repeat (first | refine go ?_ | refine goR ?_ | refine goS (fun yc hyc => ?_) | refine goL (fun _ _ => inferInstance) ?_ | with_reducible intro _ | refine goO (by first | omega | (simp only [List.length_cons, List.length_nil]; omega)) ?_ | fail))
    exact backN (σ0 := σ) Try.results7 (fun σ' _ _ => hK σ' inferInstance)⟩
end
end Go.Proofs.Ytchdbmnikaacdaa

/- The reference's Id, Size, Same; a coinbase.  -/
set_option linter.all false
set_option maxHeartbeats 40000000
set_option synthInstance.maxHeartbeats 2000000
set_option synthInstance.maxSize 100000
set_option maxRecDepth 100000
namespace Go.Proofs.Ytchdbmnikaacdaa
open Go Go.RowKit
def idM (t : Tx) : Key := if encE t = 0 then doubleB (encM t) else key0
theorem encK {α : Type} {E : Elem α} {K : KV} {σ : St} {v : Value} {x : α} [h : EncV σ E v x] (hk : K (E.val x) σ) : K v σ := h.eq ▸ hk
theorem encB {α : Type} {E : Elem α} {K : KV} {σ : St} {v : Value} {x : α} [h : EncV σ E v x] (hk : OkE σ E x → K (E.val x) σ) : K v σ := h.eq ▸ hk ⟨h.ok⟩
theorem encS_le {σ : St} {t : Tx} (h : OkE σ txE t) : (encS t).length ≤ 100000000 := by
  by_cases he : encE t = 0
  · have hm : ¬ 40 < maxL [t.ins.n, t.outs.n, t.nulls.n, t.notes.n] := fun k => by rw [encE_many k] at he; cases he
    rw [maxL4] at hm
    have h1 := (inferInstance : SL σ t.ins.A t.ins.n t.ins.c ptE t.ins.l).len
    have h2 := (inferInstance : SL σ t.outs.A t.outs.n t.outs.c otE t.outs.l).len
    have h3 := (inferInstance : SL σ t.nulls.A t.nulls.n t.nulls.c keyE t.nulls.l).len
    have h4 := (inferInstance : SL σ t.notes.A t.notes.n t.notes.c keyE t.notes.l).len
    have f1 := flat_len encPt 36 (fun x => by rw [encPt_len]; omega) t.ins.l
    have f2 := flat_len encOt 40 (fun x => by rw [encOt_len]; omega) t.outs.l
    have f3 := flat_len (fun k : Key => k.toList) 32 (fun x => by simp) t.nulls.l
    have f4 := flat_len (fun k : Key => k.toList) 32 (fun x => by simp) t.notes.l
    have f5 : (if t.nulls.n = 0 then ([] : Bs) else t.anchor.toList).length ≤ 32 := by split <;> simp
    unfold encS
    rw [if_pos he]
    unfold encM
    simp only [List.length_append, leB_len]
    omega
  · unfold encS; rw [if_neg he]; simp
def sameT (t u : Tx) : Bool := decide (t.exp = u.exp) && (decide (t.ins.l = u.ins.l) && (decide (t.outs.l = u.outs.l) && (decide (t.anchor = u.anchor) && (decide (t.nulls.l = u.nulls.l) && (decide (t.notes.l = u.notes.l) && decide (t.bal = u.bal))))))
class IsBase (t : Tx) (h : outParam UInt32) (k : outParam Key) (j : outParam Int) : Prop where
  exp : t.exp = 0
  insn : t.ins.n = 1
  insl : t.ins.l = [⟨key0, h⟩]
  outn : t.outs.n = 1
  outl : t.outs.l = [⟨Int64.ofInt (5000000 + j), k⟩]
  anc : t.anchor = key0
  nln : t.nulls.n = 0
  nll : t.nulls.l = []
  ntn : t.notes.n = 0
  ntl : t.notes.l = []
  bal : t.bal = 0
  lo : 0 ≤ j
  hi : j ≤ 2000000000000000
section
variable {t : Tx} {h : UInt32} {k : Key} {j : Int} [b : IsBase t h k j]
include b
theorem IsBase.val : (Int64.ofInt (5000000 + j)).toInt = 5000000 + j := Int64.toInt_ofInt_of_le (by have := b.lo; omega) (by have := b.hi; omega)
instance IsBase.i1 : IdxLt 0 t.ins.n := ⟨by rw [b.insn]; omega⟩
instance IsBase.i2 : IdxLt 0 t.outs.n := ⟨by rw [b.outn]; omega⟩
instance IsBase.bv : BV (decide (t.outs.l[0]!.val.toInt = 5000000 + j)) true := ⟨by rw [b.outl]; exact decide_eq_true b.val⟩
instance IsBase.bl : BV (decide (t.outs.l[0]!.lock = k)) true := ⟨by rw [b.outl]; exact decide_eq_true rfl⟩
instance IsBase.bi : BV (decide ((t.ins.l[0]!.idx.toNat : Int) = (h.toNat : Int))) true := ⟨by rw [b.insl]; exact decide_eq_true rfl⟩
instance IsBase.bn1 : BV (decide ((t.ins.n : Int) = 1)) true := ⟨by rw [b.insn]; rfl⟩
instance IsBase.bn2 : BV (decide ((t.outs.n : Int) = 1)) true := ⟨by rw [b.outn]; rfl⟩
instance IsBase.cb : BV (cbM t) true := ⟨by unfold cbM; rw [b.insl]; rfl⟩
theorem IsBase.enc0 : encE t = 0 := encE_ok (by rw [maxL4, b.insn, b.outn, b.nln, b.ntn]; decide) (fun h => h.2 b.anc)
instance IsBase.enc : Is (encE t) 0 := ⟨b.enc0⟩
theorem IsBase.encM_ : encM t = leB 4 0 ++ leB 1 1 ++ (key0.toList ++ leB 4 h.toNat) ++ leB 1 1 ++ (leB 8 (Int64.ofInt (5000000 + j)).toUInt64.toNat ++ k.toList) ++ leB 1 0 ++ leB 1 0 ++ leB 8 0 := by
  unfold encM
  rw [b.exp, b.insn, b.insl, b.outn, b.outl, b.nln, b.nll, b.ntn, b.ntl, b.bal]
  simp [encPt, encOt]
  rfl
instance IsBase.len : BV (decide (((encS t).length : Int) = 92)) true := ⟨by
  unfold encS
  rw [if_pos b.enc0, b.encM_]
  simp [leB_len]⟩
instance IsBase.chk : Is (chkM t true) 0 := ⟨by
  have e1 := b.enc0
  have e2 : emptyB t = false := by simp [emptyB, b.insn, b.outn]
  have e3 : coinB t true = false := by simp [coinB, b.cb.eq, b.nln]
  have e4 : repB t = false := by simp [repB, ptD, distK, b.insl, b.nll]
  have e5 : moneyB t = false := by
    have hv := b.val
    have hlo := b.lo
    have hhi := b.hi
    have : valsM t = [Int64.ofInt (5000000 + j)] := by unfold valsM; rw [b.outl]; rfl
    have hs : sumM (valsM t) = some (5000000 + j) := by
      rw [this]; unfold sumM; simp only [List.foldl, addM, Option.bind_some]
      rw [hv, if_pos (by simp [mayB_iff]; omega)]; simp
    have hb : t.bal.toInt = 0 := by rw [b.bal]; rfl
    unfold moneyB; rw [hs, hb]; rfl
  simp only [chkM, e1, if_true, errsM, e2, e3, e4, e5]
  simp⟩
end
section
variable {σ : St} {v1 v2 : Value} {t u : Tx} {k : Key} {j ji : Int} {hh : UInt32}
instance rule_ref_Id [h : EncV σ txE v1 t] {e : Int} [q : Is (encE t) e] : CallRule Try.prog 5 [v1] σ (fun K _ => ∀ σ', Nx σ σ' .no → K (.tuple #[.agg (kc (idM t)), .int .i64 e]) σ') := ⟨fun K E hK => by
  have e1 : v1 = .agg (cats [#[.int .u32 (t.exp.toNat : Int)], #[.slice t.ins.A t.ins.n t.ins.c], #[.slice t.outs.A t.outs.n t.outs.c], kc t.anchor, #[.slice t.nulls.A t.nulls.n t.nulls.c], #[.slice t.notes.A t.notes.n t.notes.c], #[.int .i64 t.bal.toInt]]) := h.eq
  subst e1
  haveI : OkE σ txE t := ⟨h.ok⟩
  have hle := encS_le (σ := σ) (t := t) inferInstance
  have hq := q.eq; subst hq
  by_cases he : encE t = 0
  · haveI : Is (encE t) 0 := ⟨he⟩
    have ei : idM t = doubleB (encS t) := by unfold idM encS; rw [if_pos he, if_pos he]
    rw [he, ei] at hK
    refine calls_enter Try.func5 rfl _ Try.ntmps5 rfl ?_
    (repeat (first | refine go ?_ | refine goR ?_ | refine goS (fun yc hyc => ?_) | refine goL (fun _ _ => inferInstance) ?_ | with_reducible intro _ | refine goO (by first | omega | (simp only [List.length_cons, List.length_nil]; omega)) ?_ | fail))
    exact backN (σ0 := σ) Try.results5 (fun σ' _ _ => hK σ' inferInstance)
  · haveI : BV (decide (encE t = 0)) false := ⟨decide_eq_false he⟩
    have ei : idM t = key0 := by unfold idM; rw [if_neg he]
    rw [ei] at hK
    refine calls_enter Try.func5 rfl _ Try.ntmps5 rfl ?_
    (repeat (first | refine go ?_ | refine goR ?_ | refine goS (fun yc hyc => ?_) | refine goL (fun _ _ => inferInstance) ?_ | with_reducible intro _ | refine goO (by first | omega | (simp only [List.length_cons, List.length_nil]; omega)) ?_ | fail))
    exact backN (σ0 := σ) Try.results5 (fun σ' _ _ => hK σ' inferInstance)⟩
instance rule_ref_Size [h : EncV σ txE v1 t] : CallRule Try.prog 9 [v1] σ (fun K _ => ∀ σ', Nx σ σ' .no → K (.int .i64 ((encS t).length : Int)) σ') := ⟨fun K E hK => by
  have e1 : v1 = .agg (cats [#[.int .u32 (t.exp.toNat : Int)], #[.slice t.ins.A t.ins.n t.ins.c], #[.slice t.outs.A t.outs.n t.outs.c], kc t.anchor, #[.slice t.nulls.A t.nulls.n t.nulls.c], #[.slice t.notes.A t.notes.n t.notes.c], #[.int .i64 t.bal.toInt]]) := h.eq
  subst e1
  haveI : OkE σ txE t := ⟨h.ok⟩
  refine calls_enter Try.func9 rfl _ Try.ntmps9 rfl ?_
  (repeat (first | refine go ?_ | refine goR ?_ | refine goS (fun yc hyc => ?_) | refine goL (fun _ _ => inferInstance) ?_ | with_reducible intro _ | refine goO (by first | omega | (simp only [List.length_cons, List.length_nil]; omega)) ?_ | fail))
  exact backN (σ0 := σ) Try.results9 (fun σ' _ _ => hK σ' inferInstance)⟩
instance rule_Base [p : U32 ji hh] [f1 : Fits .i64 (5000000 + j)] : CallRule Try.prog 4 [.int .u32 ji, .agg (kc k), .int .i64 j] σ (fun K _ => (0 ≤ j ∧ j ≤ 2000000000000000) ∧ ∀ σ' (t : Tx), Nx σ σ' .no → OkE σ' txE t → IsBase t hh k j → K (.agg (cats [#[.int .u32 (t.exp.toNat : Int)], #[.slice t.ins.A t.ins.n t.ins.c], #[.slice t.outs.A t.outs.n t.outs.c], kc t.anchor, #[.slice t.nulls.A t.nulls.n t.nulls.c], #[.slice t.notes.A t.notes.n t.notes.c], #[.int .i64 t.bal.toInt]])) σ') := ⟨fun K E hK => by
  obtain ⟨⟨hlo, hhi⟩, hK⟩ := hK
  have e1 := p.eq
  subst e1
  refine calls_enter Try.func4 rfl _ Try.ntmps4 rfl ?_
  (repeat (first | refine go ?_ | refine goR ?_ | refine goS (fun yc hyc => ?_) | refine goL (fun _ _ => inferInstance) ?_ | with_reducible intro _ | refine goO (by first | omega | (simp only [List.length_cons, List.length_nil]; omega)) ?_ | fail))
  exact backN (σ0 := σ) Try.results4 (fun σ' _ _ => encB (E := txE) (fun ok => hK σ' _ inferInstance ok ⟨rfl, rfl, rfl, rfl, rfl, rfl, rfl, rfl, rfl, rfl, rfl, hlo, hhi⟩))⟩
end
end Go.Proofs.Ytchdbmnikaacdaa

/- The reference's Same of transactions; a law's list of transactions.  (Printed by gen_i2.py.) -/
set_option linter.all false
set_option maxHeartbeats 40000000
set_option synthInstance.maxHeartbeats 2000000
set_option synthInstance.maxSize 100000
set_option maxRecDepth 100000
namespace Go.Proofs.Ytchdbmnikaacdaa
open Go Go.RowKit
theorem takeS_snoc_eq {α : Type} [Inhabited α] {xs ys : List α} {i : Nat} (h1 : i < xs.length) (h2 : i < ys.length) (h : xs.take i = ys.take i) (e : xs[i]! = ys[i]!) : xs.take (i + 1) = ys.take (i + 1) := by
  rw [take_snoc h1, take_snoc h2, h, e]
section
variable {σ : St} {v1 v2 : Value} {t u : Tx}
instance rule_ref_Same05 [h1 : EncV σ txE v1 t] [h2 : EncV σ txE v2 u] {bb : Bool} [q : BV (sameT t u) bb] : CallRule Try.prog 8 [v1, v2] σ (fun K _ => ∀ σ', Nx σ σ' .no → K (.bool bb) σ') := ⟨fun K E hK => by
  have e1 : v1 = .agg (cats [#[.int .u32 (t.exp.toNat : Int)], #[.slice t.ins.A t.ins.n t.ins.c], #[.slice t.outs.A t.outs.n t.outs.c], kc t.anchor, #[.slice t.nulls.A t.nulls.n t.nulls.c], #[.slice t.notes.A t.notes.n t.notes.c], #[.int .i64 t.bal.toInt]]) := h1.eq
  subst e1
  have e2 : v2 = .agg (cats [#[.int .u32 (u.exp.toNat : Int)], #[.slice u.ins.A u.ins.n u.ins.c], #[.slice u.outs.A u.outs.n u.outs.c], kc u.anchor, #[.slice u.nulls.A u.nulls.n u.nulls.c], #[.slice u.notes.A u.notes.n u.notes.c], #[.int .i64 u.bal.toInt]]) := h2.eq
  subst e2
  haveI : OkE σ txE t := ⟨h1.ok⟩
  haveI : OkE σ txE u := ⟨h2.ok⟩
  have hq := q.eq; subst hq
  have hl1 := (inferInstance : SL σ t.ins.A t.ins.n t.ins.c ptE t.ins.l).len
  have hl2 := (inferInstance : SL σ t.outs.A t.outs.n t.outs.c otE t.outs.l).len
  have hl3 := (inferInstance : SL σ t.nulls.A t.nulls.n t.nulls.c keyE t.nulls.l).len
  have hl4 := (inferInstance : SL σ t.notes.A t.notes.n t.notes.c keyE t.notes.l).len
  have hu1 := (inferInstance : SL σ u.ins.A u.ins.n u.ins.c ptE u.ins.l).len
  have hu2 := (inferInstance : SL σ u.outs.A u.outs.n u.outs.c otE u.outs.l).len
  have hu3 := (inferInstance : SL σ u.nulls.A u.nulls.n u.nulls.c keyE u.nulls.l).len
  have hu4 := (inferInstance : SL σ u.notes.A u.notes.n u.notes.c keyE u.notes.l).len
  have hm1 := (inferInstance : SL σ t.ins.A t.ins.n t.ins.c ptE t.ins.l).max
  have hm2 := (inferInstance : SL σ t.outs.A t.outs.n t.outs.c otE t.outs.l).max
  have hm3 := (inferInstance : SL σ t.nulls.A t.nulls.n t.nulls.c keyE t.nulls.l).max
  have hm4 := (inferInstance : SL σ t.notes.A t.notes.n t.notes.c keyE t.notes.l).max
  by_cases c : t.exp = u.exp
  rotate_left
  · haveI : BV (decide ((t.exp.toNat : Int) = (u.exp.toNat : Int))) false := ⟨decide_eq_false (fun k => c (UInt32.toNat_inj.1 (by omega)))⟩
    have e : sameT t u = false := by
      have k : ¬ t.exp = u.exp := c
      unfold sameT; simp [k]
    rw [e] at hK
    refine calls_enter Try.func8 rfl _ Try.ntmps8 rfl ?_
    (repeat (first | refine go ?_ | refine goR ?_ | refine goS (fun yc hyc => ?_) | refine goL (fun _ _ => inferInstance) ?_ | with_reducible intro _ | refine goO (by first | omega | (simp only [List.length_cons, List.length_nil]; omega)) ?_ | fail))
    exact backN (σ0 := σ) Try.results8 (fun σ' _ _ => hK σ' inferInstance)
  haveI : BV (decide ((t.exp.toNat : Int) = (u.exp.toNat : Int))) true := ⟨decide_eq_true (by rw [c])⟩
  have c_exp := c; clear c
  by_cases c : t.ins.n = u.ins.n
  rotate_left
  · haveI : BV (decide ((t.ins.n : Int) = (u.ins.n : Int))) false := ⟨decide_eq_false (fun k => c (by omega))⟩
    have e : sameT t u = false := by
      have k : ¬ t.ins.l = u.ins.l := fun e => c (by rw [← hl1, ← hu1, e])
      unfold sameT; simp [k]
    rw [e] at hK
    refine calls_enter Try.func8 rfl _ Try.ntmps8 rfl ?_
    (repeat (first | refine go ?_ | refine goR ?_ | refine goS (fun yc hyc => ?_) | refine goL (fun _ _ => inferInstance) ?_ | with_reducible intro _ | refine goO (by first | omega | (simp only [List.length_cons, List.length_nil]; omega)) ?_ | fail))
    exact backN (σ0 := σ) Try.results8 (fun σ' _ _ => hK σ' inferInstance)
  haveI : BV (decide ((t.ins.n : Int) = (u.ins.n : Int))) true := ⟨decide_eq_true (by rw [c])⟩
  have c_ins := c; clear c
  by_cases c : t.outs.n = u.outs.n
  rotate_left
  · haveI : BV (decide ((t.outs.n : Int) = (u.outs.n : Int))) false := ⟨decide_eq_false (fun k => c (by omega))⟩
    have e : sameT t u = false := by
      have k : ¬ t.outs.l = u.outs.l := fun e => c (by rw [← hl2, ← hu2, e])
      unfold sameT; simp [k]
    rw [e] at hK
    refine calls_enter Try.func8 rfl _ Try.ntmps8 rfl ?_
    (repeat (first | refine go ?_ | refine goR ?_ | refine goS (fun yc hyc => ?_) | refine goL (fun _ _ => inferInstance) ?_ | with_reducible intro _ | refine goO (by first | omega | (simp only [List.length_cons, List.length_nil]; omega)) ?_ | fail))
    exact backN (σ0 := σ) Try.results8 (fun σ' _ _ => hK σ' inferInstance)
  haveI : BV (decide ((t.outs.n : Int) = (u.outs.n : Int))) true := ⟨decide_eq_true (by rw [c])⟩
  have c_outs := c; clear c
  by_cases c : t.anchor = u.anchor
  rotate_left
  · haveI : BV (decide (t.anchor = u.anchor)) false := ⟨decide_eq_false (c)⟩
    have e : sameT t u = false := by
      have k : ¬ t.anchor = u.anchor := c
      unfold sameT; simp [k]
    rw [e] at hK
    refine calls_enter Try.func8 rfl _ Try.ntmps8 rfl ?_
    (repeat (first | refine go ?_ | refine goR ?_ | refine goS (fun yc hyc => ?_) | refine goL (fun _ _ => inferInstance) ?_ | with_reducible intro _ | refine goO (by first | omega | (simp only [List.length_cons, List.length_nil]; omega)) ?_ | fail))
    exact backN (σ0 := σ) Try.results8 (fun σ' _ _ => hK σ' inferInstance)
  haveI : BV (decide (t.anchor = u.anchor)) true := ⟨decide_eq_true (c)⟩
  have c_anchor := c; clear c
  by_cases c : t.nulls.n = u.nulls.n
  rotate_left
  · haveI : BV (decide ((t.nulls.n : Int) = (u.nulls.n : Int))) false := ⟨decide_eq_false (fun k => c (by omega))⟩
    have e : sameT t u = false := by
      have k : ¬ t.nulls.l = u.nulls.l := fun e => c (by rw [← hl3, ← hu3, e])
      unfold sameT; simp [k]
    rw [e] at hK
    refine calls_enter Try.func8 rfl _ Try.ntmps8 rfl ?_
    (repeat (first | refine go ?_ | refine goR ?_ | refine goS (fun yc hyc => ?_) | refine goL (fun _ _ => inferInstance) ?_ | with_reducible intro _ | refine goO (by first | omega | (simp only [List.length_cons, List.length_nil]; omega)) ?_ | fail))
    exact backN (σ0 := σ) Try.results8 (fun σ' _ _ => hK σ' inferInstance)
  haveI : BV (decide ((t.nulls.n : Int) = (u.nulls.n : Int))) true := ⟨decide_eq_true (by rw [c])⟩
  have c_nulls := c; clear c
  by_cases c : t.notes.n = u.notes.n
  rotate_left
  · haveI : BV (decide ((t.notes.n : Int) = (u.notes.n : Int))) false := ⟨decide_eq_false (fun k => c (by omega))⟩
    have e : sameT t u = false := by
      have k : ¬ t.notes.l = u.notes.l := fun e => c (by rw [← hl4, ← hu4, e])
      unfold sameT; simp [k]
    rw [e] at hK
    refine calls_enter Try.func8 rfl _ Try.ntmps8 rfl ?_
    (repeat (first | refine go ?_ | refine goR ?_ | refine goS (fun yc hyc => ?_) | refine goL (fun _ _ => inferInstance) ?_ | with_reducible intro _ | refine goO (by first | omega | (simp only [List.length_cons, List.length_nil]; omega)) ?_ | fail))
    exact backN (σ0 := σ) Try.results8 (fun σ' _ _ => hK σ' inferInstance)
  haveI : BV (decide ((t.notes.n : Int) = (u.notes.n : Int))) true := ⟨decide_eq_true (by rw [c])⟩
  have c_notes := c; clear c
  by_cases c : t.bal = u.bal
  rotate_left
  · haveI : BV (decide (t.bal.toInt = u.bal.toInt)) false := ⟨decide_eq_false (fun k => c (Int64.toInt_inj.1 k))⟩
    have e : sameT t u = false := by
      have k : ¬ t.bal = u.bal := c
      unfold sameT; simp [k]
    rw [e] at hK
    refine calls_enter Try.func8 rfl _ Try.ntmps8 rfl ?_
    (repeat (first | refine go ?_ | refine goR ?_ | refine goS (fun yc hyc => ?_) | refine goL (fun _ _ => inferInstance) ?_ | with_reducible intro _ | refine goO (by first | omega | (simp only [List.length_cons, List.length_nil]; omega)) ?_ | fail))
    exact backN (σ0 := σ) Try.results8 (fun σ' _ _ => hK σ' inferInstance)
  haveI : BV (decide (t.bal.toInt = u.bal.toInt)) true := ⟨decide_eq_true (by rw [c])⟩
  have c_bal := c; clear c
  refine calls_enter Try.func8 rfl _ Try.ntmps8 rfl ?_
  (repeat (first | refine go ?_ | refine goR ?_ | refine goS (fun yc hyc => ?_) | refine goL (fun _ _ => inferInstance) ?_ | with_reducible intro _ | refine goO (by first | omega | (simp only [List.length_cons, List.length_nil]; omega)) ?_ | fail))
  refine WC.loopW 4835684831714442989273136 .no (fun (i : Nat) f s => At f 5 (.int .i64 (i : Int)) ∧ i ≤ t.ins.n ∧ t.ins.l.take i = u.ins.l.take i) (fun i => t.ins.n - i) 0 ⟨At.to (.int .i64 0) rfl, Nat.zero_le _, rfl⟩ ?_
  rintro i f0 s0 ha0 hs0 ⟨a0, hi, he⟩
  by_cases hlt : i < t.ins.n
  · haveI : BV (decide ((i : Int) < (t.ins.n : Int))) true := ⟨by simpa using hlt⟩
    haveI : IdxLt i t.ins.n := ⟨hlt⟩
    haveI : IdxLt i u.ins.n := ⟨by omega⟩
    haveI : Fits .i64 ((i : Int) + 1) := Fits.i64 (by omega) (by omega)
    by_cases hx : t.ins.l[i]! = u.ins.l[i]!
    · haveI : BV (decide (t.ins.l[i]! = u.ins.l[i]!)) true := ⟨by simpa using hx⟩
      (repeat (first | refine go ?_ | refine goR ?_ | refine goS (fun yc hyc => ?_) | refine goL (fun _ _ => inferInstance) ?_ | with_reducible intro _ | refine goO (by first | omega | (simp only [List.length_cons, List.length_nil]; omega)) ?_ | fail))
      refine WC.draw [] (.l 0 (.l 1 (.p 2 (.l 3 (.l 4 (.l 5 (.l 6 (.p 7 (.l 8 (.l 9 (.p 10 .nil))))))))))) mixed (by decide +kernel) ?_
      (repeat (first | refine go ?_ | refine goR ?_ | refine goS (fun yc hyc => ?_) | refine goL (fun _ _ => inferInstance) ?_ | with_reducible intro _ | refine goO (by first | omega | (simp only [List.length_cons, List.length_nil]; omega)) ?_ | fail))
      refine loop_w (i + 1) ⟨At.to (.int .i64 ((i : Int) + 1)) (by simp), hlt, takeS_snoc_eq (by omega) (by omega) he hx⟩ (by omega)
    · haveI : BV (decide (t.ins.l[i]! = u.ins.l[i]!)) false := ⟨by simpa using hx⟩
      (repeat (first | refine go ?_ | refine goR ?_ | refine goS (fun yc hyc => ?_) | refine goL (fun _ _ => inferInstance) ?_ | with_reducible intro _ | refine goO (by first | omega | (simp only [List.length_cons, List.length_nil]; omega)) ?_ | fail))
      refine WC.draw [] (.l 0 (.l 1 (.p 2 (.l 3 (.l 4 (.l 5 (.l 6 (.p 7 (.l 8 (.l 9 (.p 10 .nil))))))))))) mixed (by decide +kernel) ?_
      (repeat (first | refine go ?_ | refine goR ?_ | refine goS (fun yc hyc => ?_) | refine goL (fun _ _ => inferInstance) ?_ | with_reducible intro _ | refine goO (by first | omega | (simp only [List.length_cons, List.length_nil]; omega)) ?_ | fail))
      have e : sameT t u = false := by
        have k : ¬ t.ins.l = u.ins.l := by intro e; rw [e] at hx; exact hx rfl
        unfold sameT; simp [k]
      rw [e] at hK
      exact backN (σ0 := σ) Try.results8 (fun σ' _ _ => hK σ' inferInstance)
  haveI : BV (decide ((i : Int) < (t.ins.n : Int))) false := ⟨by simpa using hlt⟩
  rw [take_all (by omega), take_all (by omega)] at he
  have e_ins := he; clear he hlt hi
  (repeat (first | refine go ?_ | refine goR ?_ | refine goS (fun yc hyc => ?_) | refine goL (fun _ _ => inferInstance) ?_ | with_reducible intro _ | refine goO (by first | omega | (simp only [List.length_cons, List.length_nil]; omega)) ?_ | fail))
  refine WC.loopW 1267645764524950942980004380752 .no (fun (i : Nat) f s => At f 6 (.int .i64 (i : Int)) ∧ i ≤ t.outs.n ∧ t.outs.l.take i = u.outs.l.take i) (fun i => t.outs.n - i) 0 ⟨At.to (.int .i64 0) rfl, Nat.zero_le _, rfl⟩ ?_
  rintro i f1 s1 ha1 hs1 ⟨a1, hi, he⟩
  by_cases hlt : i < t.outs.n
  · haveI : BV (decide ((i : Int) < (t.outs.n : Int))) true := ⟨by simpa using hlt⟩
    haveI : IdxLt i t.outs.n := ⟨hlt⟩
    haveI : IdxLt i u.outs.n := ⟨by omega⟩
    haveI : Fits .i64 ((i : Int) + 1) := Fits.i64 (by omega) (by omega)
    by_cases hx : t.outs.l[i]! = u.outs.l[i]!
    · haveI : BV (decide (t.outs.l[i]! = u.outs.l[i]!)) true := ⟨by simpa using hx⟩
      (repeat (first | refine go ?_ | refine goR ?_ | refine goS (fun yc hyc => ?_) | refine goL (fun _ _ => inferInstance) ?_ | with_reducible intro _ | refine goO (by first | omega | (simp only [List.length_cons, List.length_nil]; omega)) ?_ | fail))
      refine WC.draw [] (.l 0 (.l 1 (.p 2 (.l 3 (.l 4 (.l 5 (.l 6 (.p 7 (.l 8 (.l 9 (.p 10 .nil))))))))))) mixed (by decide +kernel) ?_
      (repeat (first | refine go ?_ | refine goR ?_ | refine goS (fun yc hyc => ?_) | refine goL (fun _ _ => inferInstance) ?_ | with_reducible intro _ | refine goO (by first | omega | (simp only [List.length_cons, List.length_nil]; omega)) ?_ | fail))
      refine loop_w (i + 1) ⟨At.to (.int .i64 ((i : Int) + 1)) (by simp), hlt, takeS_snoc_eq (by omega) (by omega) he hx⟩ (by omega)
    · haveI : BV (decide (t.outs.l[i]! = u.outs.l[i]!)) false := ⟨by simpa using hx⟩
      (repeat (first | refine go ?_ | refine goR ?_ | refine goS (fun yc hyc => ?_) | refine goL (fun _ _ => inferInstance) ?_ | with_reducible intro _ | refine goO (by first | omega | (simp only [List.length_cons, List.length_nil]; omega)) ?_ | fail))
      refine WC.draw [] (.l 0 (.l 1 (.p 2 (.l 3 (.l 4 (.l 5 (.l 6 (.p 7 (.l 8 (.l 9 (.p 10 .nil))))))))))) mixed (by decide +kernel) ?_
      (repeat (first | refine go ?_ | refine goR ?_ | refine goS (fun yc hyc => ?_) | refine goL (fun _ _ => inferInstance) ?_ | with_reducible intro _ | refine goO (by first | omega | (simp only [List.length_cons, List.length_nil]; omega)) ?_ | fail))
      have e : sameT t u = false := by
        have k : ¬ t.outs.l = u.outs.l := by intro e; rw [e] at hx; exact hx rfl
        unfold sameT; simp [k]
      rw [e] at hK
      exact backN (σ0 := σ) Try.results8 (fun σ' _ _ => hK σ' inferInstance)
  haveI : BV (decide ((i : Int) < (t.outs.n : Int))) false := ⟨by simpa using hlt⟩
  rw [take_all (by omega), take_all (by omega)] at he
  have e_outs := he; clear he hlt hi
  (repeat (first | refine go ?_ | refine goR ?_ | refine goS (fun yc hyc => ?_) | refine goL (fun _ _ => inferInstance) ?_ | with_reducible intro _ | refine goO (by first | omega | (simp only [List.length_cons, List.length_nil]; omega)) ?_ | fail))
  refine WC.loopW 332305731295628739996550268366880912 .no (fun (i : Nat) f s => At f 7 (.int .i64 (i : Int)) ∧ i ≤ t.nulls.n ∧ t.nulls.l.take i = u.nulls.l.take i) (fun i => t.nulls.n - i) 0 ⟨At.to (.int .i64 0) rfl, Nat.zero_le _, rfl⟩ ?_
  rintro i f2 s2 ha2 hs2 ⟨a2, hi, he⟩
  by_cases hlt : i < t.nulls.n
  · haveI : BV (decide ((i : Int) < (t.nulls.n : Int))) true := ⟨by simpa using hlt⟩
    haveI : IdxLt i t.nulls.n := ⟨hlt⟩
    haveI : IdxLt i u.nulls.n := ⟨by omega⟩
    haveI : Fits .i64 ((i : Int) + 1) := Fits.i64 (by omega) (by omega)
    by_cases hx : t.nulls.l[i]! = u.nulls.l[i]!
    · haveI : BV (decide (t.nulls.l[i]! = u.nulls.l[i]!)) true := ⟨by simpa using hx⟩
      (repeat (first | refine go ?_ | refine goR ?_ | refine goS (fun yc hyc => ?_) | refine goL (fun _ _ => inferInstance) ?_ | with_reducible intro _ | refine goO (by first | omega | (simp only [List.length_cons, List.length_nil]; omega)) ?_ | fail))
      refine WC.draw [] (.l 0 (.l 1 (.p 2 (.l 3 (.l 4 (.l 5 (.l 6 (.p 7 (.l 8 (.l 9 (.p 10 .nil))))))))))) mixed (by decide +kernel) ?_
      (repeat (first | refine go ?_ | refine goR ?_ | refine goS (fun yc hyc => ?_) | refine goL (fun _ _ => inferInstance) ?_ | with_reducible intro _ | refine goO (by first | omega | (simp only [List.length_cons, List.length_nil]; omega)) ?_ | fail))
      refine loop_w (i + 1) ⟨At.to (.int .i64 ((i : Int) + 1)) (by simp), hlt, takeS_snoc_eq (by omega) (by omega) he hx⟩ (by omega)
    · haveI : BV (decide (t.nulls.l[i]! = u.nulls.l[i]!)) false := ⟨by simpa using hx⟩
      (repeat (first | refine go ?_ | refine goR ?_ | refine goS (fun yc hyc => ?_) | refine goL (fun _ _ => inferInstance) ?_ | with_reducible intro _ | refine goO (by first | omega | (simp only [List.length_cons, List.length_nil]; omega)) ?_ | fail))
      refine WC.draw [] (.l 0 (.l 1 (.p 2 (.l 3 (.l 4 (.l 5 (.l 6 (.p 7 (.l 8 (.l 9 (.p 10 .nil))))))))))) mixed (by decide +kernel) ?_
      (repeat (first | refine go ?_ | refine goR ?_ | refine goS (fun yc hyc => ?_) | refine goL (fun _ _ => inferInstance) ?_ | with_reducible intro _ | refine goO (by first | omega | (simp only [List.length_cons, List.length_nil]; omega)) ?_ | fail))
      have e : sameT t u = false := by
        have k : ¬ t.nulls.l = u.nulls.l := by intro e; rw [e] at hx; exact hx rfl
        unfold sameT; simp [k]
      rw [e] at hK
      exact backN (σ0 := σ) Try.results8 (fun σ' _ _ => hK σ' inferInstance)
  haveI : BV (decide ((i : Int) < (t.nulls.n : Int))) false := ⟨by simpa using hlt⟩
  rw [take_all (by omega), take_all (by omega)] at he
  have e_nulls := he; clear he hlt hi
  (repeat (first | refine go ?_ | refine goR ?_ | refine goS (fun yc hyc => ?_) | refine goL (fun _ _ => inferInstance) ?_ | with_reducible intro _ | refine goO (by first | omega | (simp only [List.length_cons, List.length_nil]; omega)) ?_ | fail))
  refine WC.loopW 87111953624761300417655673550767592046864 .no (fun (i : Nat) f s => At f 8 (.int .i64 (i : Int)) ∧ i ≤ t.notes.n ∧ t.notes.l.take i = u.notes.l.take i) (fun i => t.notes.n - i) 0 ⟨At.to (.int .i64 0) rfl, Nat.zero_le _, rfl⟩ ?_
  rintro i f3 s3 ha3 hs3 ⟨a3, hi, he⟩
  by_cases hlt : i < t.notes.n
  · haveI : BV (decide ((i : Int) < (t.notes.n : Int))) true := ⟨by simpa using hlt⟩
    haveI : IdxLt i t.notes.n := ⟨hlt⟩
    haveI : IdxLt i u.notes.n := ⟨by omega⟩
    haveI : Fits .i64 ((i : Int) + 1) := Fits.i64 (by omega) (by omega)
    by_cases hx : t.notes.l[i]! = u.notes.l[i]!
    · haveI : BV (decide (t.notes.l[i]! = u.notes.l[i]!)) true := ⟨by simpa using hx⟩
      (repeat (first | refine go ?_ | refine goR ?_ | refine goS (fun yc hyc => ?_) | refine goL (fun _ _ => inferInstance) ?_ | with_reducible intro _ | refine goO (by first | omega | (simp only [List.length_cons, List.length_nil]; omega)) ?_ | fail))
      refine WC.draw [] (.l 0 (.l 1 (.p 2 (.l 3 (.l 4 (.l 5 (.l 6 (.p 7 (.l 8 (.l 9 (.p 10 .nil))))))))))) mixed (by decide +kernel) ?_
      (repeat (first | refine go ?_ | refine goR ?_ | refine goS (fun yc hyc => ?_) | refine goL (fun _ _ => inferInstance) ?_ | with_reducible intro _ | refine goO (by first | omega | (simp only [List.length_cons, List.length_nil]; omega)) ?_ | fail))
      refine loop_w (i + 1) ⟨At.to (.int .i64 ((i : Int) + 1)) (by simp), hlt, takeS_snoc_eq (by omega) (by omega) he hx⟩ (by omega)
    · haveI : BV (decide (t.notes.l[i]! = u.notes.l[i]!)) false := ⟨by simpa using hx⟩
      (repeat (first | refine go ?_ | refine goR ?_ | refine goS (fun yc hyc => ?_) | refine goL (fun _ _ => inferInstance) ?_ | with_reducible intro _ | refine goO (by first | omega | (simp only [List.length_cons, List.length_nil]; omega)) ?_ | fail))
      refine WC.draw [] (.l 0 (.l 1 (.p 2 (.l 3 (.l 4 (.l 5 (.l 6 (.p 7 (.l 8 (.l 9 (.p 10 .nil))))))))))) mixed (by decide +kernel) ?_
      (repeat (first | refine go ?_ | refine goR ?_ | refine goS (fun yc hyc => ?_) | refine goL (fun _ _ => inferInstance) ?_ | with_reducible intro _ | refine goO (by first | omega | (simp only [List.length_cons, List.length_nil]; omega)) ?_ | fail))
      have e : sameT t u = false := by
        have k : ¬ t.notes.l = u.notes.l := by intro e; rw [e] at hx; exact hx rfl
        unfold sameT; simp [k]
      rw [e] at hK
      exact backN (σ0 := σ) Try.results8 (fun σ' _ _ => hK σ' inferInstance)
  haveI : BV (decide ((i : Int) < (t.notes.n : Int))) false := ⟨by simpa using hlt⟩
  rw [take_all (by omega), take_all (by omega)] at he
  have e_notes := he; clear he hlt hi
  (repeat (first | refine go ?_ | refine goR ?_ | refine goS (fun yc hyc => ?_) | refine goL (fun _ _ => inferInstance) ?_ | with_reducible intro _ | refine goO (by first | omega | (simp only [List.length_cons, List.length_nil]; omega)) ?_ | fail))
  have e : sameT t u = true := by
    unfold sameT
    simp [c_exp, c_anchor, c_bal, e_ins, e_outs, e_nulls, e_notes]
  rw [e] at hK
  exact backN (σ0 := σ) Try.results8 (fun σ' _ _ => hK σ' inferInstance)⟩
end
end Go.Proofs.Ytchdbmnikaacdaa

/- The law TemplateBase, by contract.  -/
set_option linter.all false
set_option maxHeartbeats 40000000
set_option synthInstance.maxHeartbeats 2000000
set_option synthInstance.maxSize 100000
set_option maxRecDepth 100000
namespace Go.Proofs.Ytchdbmnikaacdaa
open Go Go.RowKit
instance (priority := 900) IsBase.bvlit {t : Tx} {h : UInt32} {k : Key} {j n : Int} [b : IsBase t h k j] [e : EqB (decide (5000000 + j = n)) true] : BV (decide (t.outs.l[0]!.val.toInt = n)) true := ⟨by rw [← of_decide_eq_true e.eq]; exact b.bv.eq⟩
section
variable {σ : St} {k : Key} {h z : UInt32}
instance rule_shown21 : CallRule Try.prog 10 [] σ (fun K _ => ∀ σ', Nx σ σ' .no → K (.bool true) σ') := ⟨fun K E hK => by
  haveI : Fits .i64 (5000000 + 3) := Fits.i64 (by omega) (by omega)
  haveI : ∀ (t : Tx) (k : Key) [b : IsBase t (UInt32.ofNat 7) k 3], BV (decide ((t.ins.l[0]!.idx.toNat : Int) = 7)) true := fun t k b => ⟨by rw [b.insl]; rfl⟩
  haveI : ∀ (t : Tx) (k : Key) (h : UInt32) [b : IsBase t h k 3], BV (decide (t.outs.l[0]!.val.toInt = 5000003)) true := fun t k h b => ⟨b.bv.eq⟩
  refine calls_enter Try.func10 rfl _ Try.ntmps10 rfl ?_
  (repeat (first | refine go ?_ | refine goR ?_ | refine goS (fun yc hyc => ?_) | refine goL (fun _ _ => inferInstance) ?_ | with_reducible intro _ | refine goO (by first | omega | (simp only [List.length_cons, List.length_nil]; omega)) ?_ | fail))
  exact backN (σ0 := σ) Try.results10 (fun σ' _ _ => hK σ' inferInstance)⟩
instance rule_TemplateBase : CallRule Try.prog 3 [.int .u32 (h.toNat : Int), .agg (kc k), .int .u32 (z.toNat : Int)] σ (fun K _ => ∀ σ', Nx σ σ' .no → K (.bool true) σ') := ⟨fun K E hK => by
  have hz := z.toNat_lt
  haveI : Fits .i64 (z.toNat : Int) := Fits.i64 (by omega) (by omega)
  haveI : Fits .i64 (5000000 + (z.toNat : Int)) := Fits.i64 (by omega) (by omega)
  haveI : ∀ (t u : Tx) (k2 : Key) (j2 : Int) [b : IsBase t h k2 j2] [b' : IsBase u (h + 1) k2 j2], BV (sameT t u) false := fun t u k2 j2 b b' => ⟨by
    have k : ¬ t.ins.l = u.ins.l := by
      rw [b.insl, b'.insl]
      intro e
      injection e with e _; injection e with _ e
      have := congrArg UInt32.toNat e
      rw [UInt32.toNat_add] at this
      have := h.toNat_lt
      have : (1 : UInt32).toNat = 1 := rfl
      omega
    unfold sameT; simp [k]⟩
  refine calls_enter Try.func3 rfl _ Try.ntmps3 rfl ?_
  (repeat (first | refine go ?_ | refine goR ?_ | refine goS (fun yc hyc => ?_) | refine goL (fun _ _ => inferInstance) ?_ | with_reducible intro _ | refine goO (by first | omega | (simp only [List.length_cons, List.length_nil]; omega)) ?_ | fail))
  refine WC.draw [] (.l 0 (.h 1 (.p 2 (.l 3 (.h 4 (.p 5 (.p 6 (.p 7 (.l 8 (.l 9 (.l 10 (.l 11 (.l 12 (.p 13 (.l 14 (.p 15 (.p 16 (.p 17 (.p 18 (.l 19 (.l 20 (.l 21 (.l 22 (.l 23 (.l 24 (.p 25 (.p 26 (.p 27 (.p 28 (.p 29 (.p 30 (.p 31 (.p 32 (.p 33 (.p 34 (.p 35 (.l 36 (.l 37 (.h 38 (.p 39 (.p 40 (.p 41 (.l 42 (.h 43 (.p 44 (.p 45 (.p 46 (.p 47 (.p 48 (.h 49 (.p 50 (.p 51 .nil)))))))))))))))))))))))))))))))))))))))))))))))))))) mixed (by decide +kernel) ?_
  (repeat' (first | refine go ?_ | refine goR ?_ | refine goS (fun yc hyc => ?_) | refine goL (fun _ _ => inferInstance) ?_ | refine goF ?_ ?_ | refine goG ?_ ?_ ?_ | with_reducible intro _ | refine goO (by first | omega | (simp only [List.length_cons, List.length_nil]; omega)) ?_ | fail))
  all_goals exact backN (σ0 := σ) Try.results3 (fun σ' _ _ => hK σ' inferInstance)⟩
end
end Go.Proofs.Ytchdbmnikaacdaa

/- From the given row to the walk: what the arguments are, and what the statement asks.  -/
set_option linter.all false
set_option maxRecDepth 100000
namespace Go.Proofs.Ytchdbmnikaacdaa
open Go Go.RowKit Go.ChangeShapes Go.WideShapes Go.ChangeAt

theorem own_ : ownKnob Try.prog.godebug = none := by kernel_rfl
theorem laidOut_ : laidOutB Try.prog = true := by kernel_rfl

/-- the state at the call's beginning: nothing may turn -/
def st0 (W : World) : St := ⟨W, fun _ => False, nofun⟩
theorem law_of_rule {P : Program} {g : FuncId} {args : List Value} {W : World} (h : CallRule P g args (st0 W) (fun K _ => ∀ σ', Nx (st0 W) σ' .no → K (.bool true) σ')) :
    Calls P g args.toArray W fun e w' => e = .returned (.bool true) ∧ Below W.heap.size W w' := by
  refine (h.sound (fun v σ' => v = .bool true ∧ Below W.heap.size W σ'.w) (fun _ _ => False) (fun σ' n => ⟨rfl, n.p.os, n.p.tape, n.p.output, n.p.size, fun b hb => (n.p.own b hb id).1⟩)).mono ?_
  intro e w' he
  cases e with
  | returned v => obtain ⟨σ', rfl, rfl, hb⟩ := he; exact ⟨rfl, hb⟩
  | panicked c => obtain ⟨σ', rfl, hb⟩ := he; exact hb.elim
  | outgrown => exact he.elim

section
variable {H : Type} {enc : TypeId × Value → H} {w : World} {base fuel : Nat} {spare : Nat → Bool} {held : Bool}
theorem key_of_trod {cs : List Value} {x : DataW H × List MemPlace} (h : DataW.trod enc Try.prog w base spare held fuel 24 cs = some x) : ∃ k : Key, cs = (kc k).toList := by
  obtain ⟨xs, m, _, _, hl, hn, hel⟩ := DataW.trod_array (inferInstance : U Try.prog 24 _).h h
  have c5 : Try.prog.cellsOf 5 = 1 := by kernel_rfl
  have c24 : Try.prog.cellsOf 24 = 32 := by kernel_rfl
  rw [c24] at hl
  have key : ∀ i, i < 32 → ∃ b : UInt8, cs[i]? = some (u8v b) := by
    intro i hi
    have hE := hel i hi
    rw [c5, Nat.mul_one, List.getElem?_eq_getElem (by omega)] at hE
    obtain ⟨z, e1, e2, wz⟩ := DataW.trod_int (inferInstance : U Try.prog 5 _).h hE
    have hz := bounds_u8 wz
    have h0 : ((cs.drop i).take 1)[0]? = some (.int .u8 z) := by rw [e1]; rfl
    refine ⟨UInt8.ofNat z.toNat, ?_⟩
    have h1 : cs[i]? = some (.int .u8 z) := by simpa using h0
    rw [h1]
    have hm : (UInt8.ofNat z.toNat).toNat = z.toNat := by simp; omega
    unfold u8v
    rw [hm, Int.toNat_of_nonneg hz.1]
  refine ⟨Vector.ofFn fun i => Classical.choose (key i.1 i.2), ?_⟩
  apply List.ext_getElem?
  intro i
  by_cases hi : i < 32
  · rw [Classical.choose_spec (key i hi), Array.getElem?_toList (xs := kc _), kc_get _ i hi]
    simp
  · rw [List.getElem?_eq_none (by omega), List.getElem?_eq_none (by simp [kc_size]; omega)]
theorem open_key {r : Reach} {v : Value} {d : DataW H} {p : List MemPlace} (hv : Value.okWide Try.prog w r base 24 v) {base' : Nat} (h : DataW.Trod enc Try.prog w base' spare held 24 v d p) : ∃ k : Key, v = .agg (kc k) := by
  obtain ⟨cs, rfl, hsz, _⟩ : ∃ cs, v = .agg cs ∧ cs.size = Try.prog.cellsOf 24 ∧ Row.okWide Try.prog w r base 24 cs := by
    simpa [Value.okWide, (inferInstance : U Try.prog 24 _).h] using hv
  obtain ⟨fuel, hf⟩ := h
  obtain ⟨k, hk⟩ := key_of_trod hf
  exact ⟨k, by congr 1; exact Array.ext' hk⟩
theorem open_u8 {r : Reach} {v : Value} {d : DataW H} {p : List MemPlace} (hv : Value.okWide Try.prog w r base 5 v) {base' : Nat} (h : DataW.Trod enc Try.prog w base' spare held 5 v d p) : ∃ x : UInt8, v = .int .u8 (x.toNat : Int) := by
  obtain ⟨z, rfl, rfl, rfl, wz⟩ := open_int (inferInstance : U Try.prog 5 _).h hv h
  have hz := bounds_u8 wz
  refine ⟨UInt8.ofNat z.toNat, ?_⟩
  have hm : (UInt8.ofNat z.toNat).toNat = z.toNat := by simp; omega
  rw [hm, Int.toNat_of_nonneg hz.1]
theorem sl_of_trod' {P : Program} {α : Type} [Inhabited α] {E : Elem α} {t e : TypeId} {fuel : Nat} {a : Option Addr} {n c : Nat} {x : DataW H × List MemPlace} (u : P.underlying t = some (.slice e)) (hc : P.cellsOf e = E.sz)
    (hE : ∀ {fuel : Nat} {cs : List Value} {x : DataW H × List MemPlace}, DataW.trod enc P w 0 spare held fuel e cs = some x → ∃ y, cs = (E.val y).cells.toList ∧ E.ok (st0 w) y)
    (hf : DataW.trod enc P w 0 spare held fuel t [.slice a n c] = some x) : ∃ xs, SL (st0 w) a n c E xs := by
  rcases Go.Deep.open_slice u hf with ⟨hcs, _⟩ | ⟨a', len, cap, m, k, D, Pl, hcs, _, hl, hm, hmm, _, hel⟩
  · have : Value.slice a n c = .slice none 0 0 := by simpa using hcs
    injection this with h1 h2 h3
    subst h1; subst h2; subst h3
    exact ⟨[], ⟨rfl, Nat.le_refl _, by omega, by simp, .inl rfl⟩⟩
  · have : Value.slice a n c = .slice (some a') len cap := by simpa using hcs
    injection this with h1 h2 h3
    subst h1; subst h2; subst h3
    have hnm : n ≤ m := by rw [hmm]; split <;> omega
    obtain ⟨f, hf⟩ := Go.Deep.choose_lt (n := n) (p := fun i y => w.cells? 0 (a'.add (i * E.sz)) E.sz = some (E.val y).cells.toList ∧ E.ok (st0 w) y) (fun i hi => by
      obtain ⟨cs', h1, h2⟩ := hel i (by omega)
      obtain ⟨y, rfl, hy⟩ := hE h2
      rw [hc] at h1
      exact ⟨y, h1, hy⟩)
    refine ⟨(List.range n).map f, ⟨by simp, hl, ?_, ?_, ?_⟩⟩
    · simp only [maxLen] at hm; omega
    · intro x hx
      obtain ⟨i, hi, rfl⟩ := List.mem_map.1 hx
      exact (hf i (List.mem_range.1 hi)).2
    · by_cases h0 : n = 0
      · exact .inl h0
      · have hpos := E.pos
        have cell : ∀ i j, i < n → j < E.sz → w.cell? ((a'.add (i * E.sz)).add j) = (E.val (f i)).cells[j]? := by
          intro i j hi hj
          have := (World.cells?_some (hf i hi).1).2.2 j hj
          simpa using this
        have c0 := cell 0 0 (by omega) hpos
        have hs0 : 0 < (E.val (f 0)).cells.size := by rw [E.size]; exact hpos
        rw [Array.getElem?_eq_getElem hs0] at c0
        have hsp := World.cell?_spot c0
        obtain ⟨b, o, spot⟩ := a'
        have hspot : spot = none := by
          cases spot with
          | none => rfl
          | some q => simp [Addr.add] at hsp
        subst hspot
        have hblk : b < w.heap.size := by
          have := World.cells?_block (hf 0 (by omega)).1 hpos
          simpa [add_at] using this
        refine .inr ⟨b, o, rfl, id, hblk, fun j v hj => ?_⟩
        have hjl : j < n * E.sz := by
          have := (List.getElem?_eq_some_iff.1 hj).1
          rw [E.flat_length] at this; simpa using this
        have hi : j / E.sz < n := Nat.div_lt_of_lt_mul (by rw [Nat.mul_comm]; exact hjl)
        have hr : j % E.sz < E.sz := Nat.mod_lt _ hpos
        have e1 := E.flat_get ((List.range n).map f) (j / E.sz) (j % E.sz) (by simpa using hi) hr
        have e2 : j / E.sz * E.sz + j % E.sz = j := by rw [Nat.mul_comm]; exact Nat.div_add_mod j E.sz
        rw [e2, hj] at e1
        have e3 := cell (j / E.sz) (j % E.sz) hi hr
        rw [add_at, add_at, Nat.add_assoc, e2] at e3
        show w.cell? _ = _
        rw [e3]
        simpa using e1.symm
theorem open_sl {P : Program} {α : Type} [Inhabited α] {E : Elem α} {t e : TypeId} (u : P.underlying t = some (.slice e)) (hc : P.cellsOf e = E.sz)
    (hE : ∀ {fuel : Nat} {cs : List Value} {x : DataW H × List MemPlace}, DataW.trod enc P w 0 spare held fuel e cs = some x → ∃ y, cs = (E.val y).cells.toList ∧ E.ok (st0 w) y)
    {r : Reach} {b0 : Nat} {v : Value} {d : DataW H} {p : List MemPlace} (hv : Value.okWide P w r b0 t v) (h : DataW.Trod enc P w 0 spare held t v d p) : ∃ A n c xs, v = .slice A n c ∧ SL (st0 w) A n c E xs := by
  obtain ⟨a, n, c, rfl⟩ := okWide_slice u hv
  obtain ⟨fuel, hf⟩ := h
  obtain ⟨xs, hs⟩ := sl_of_trod' u hc hE (by simpa [Value.cells] using hf)
  exact ⟨a, n, c, xs, rfl, hs⟩
theorem open_keys {r : Reach} {v : Value} {d : DataW H} {p : List MemPlace} {b0 : Nat} (hv : Value.okWide Try.prog w r b0 27 v) (h : DataW.Trod enc Try.prog w 0 spare held 27 v d p) : ∃ A n c xs, v = .slice A n c ∧ SL (st0 w) A n c keyE xs :=
  open_sl (inferInstance : U Try.prog 27 _).h (by kernel_rfl) (fun h => by
    obtain ⟨k, hk⟩ := key_of_trod h
    exact ⟨k, hk, trivial⟩) hv h
end
end Go.Proofs.Ytchdbmnikaacdaa

/- From the given row to the walk: structs and slices of them.  -/
set_option linter.all false
set_option maxRecDepth 100000
set_option maxHeartbeats 4000000
namespace Go.Proofs.Ytchdbmnikaacdaa
open Go Go.RowKit Go.ChangeShapes Go.WideShapes Go.ChangeAt
theorem piece (cs : List Value) (o s : Nat) {r : Nat} (h : o + s = r) : cs.drop o = (cs.drop o).take s ++ cs.drop r := by
  subst h
  rw [← List.drop_drop, List.take_append_drop]
section
variable {H : Type} {enc : TypeId × Value → H} {w : World} {base fuel : Nat} {spare : Nat → Bool} {held : Bool} {P : Program} {t : TypeId} {cs : List Value} {x : DataW H × List MemPlace}
theorem u8_of_trod (u : P.underlying t = some (.int .u8)) (h : DataW.trod enc P w base spare held fuel t cs = some x) : ∃ y : UInt8, cs = [.int .u8 (y.toNat : Int)] := by
  obtain ⟨z, e1, _, wz⟩ := DataW.trod_int u h
  have hz : 0 ≤ z ∧ z ≤ 255 := by simpa [Lit.wf, IntKind.min, IntKind.max, IntKind.signed, IntKind.bits] using wz
  refine ⟨UInt8.ofNat z.toNat, ?_⟩
  have hm : (UInt8.ofNat z.toNat).toNat = z.toNat := by simp; omega
  rw [hm, Int.toNat_of_nonneg hz.1, e1]
theorem u16_of_trod (u : P.underlying t = some (.int .u16)) (h : DataW.trod enc P w base spare held fuel t cs = some x) : ∃ y : UInt16, cs = [.int .u16 (y.toNat : Int)] := by
  obtain ⟨z, e1, _, wz⟩ := DataW.trod_int u h
  have hz : 0 ≤ z ∧ z ≤ 65535 := by simpa [Lit.wf, IntKind.min, IntKind.max, IntKind.signed, IntKind.bits] using wz
  refine ⟨UInt16.ofNat z.toNat, ?_⟩
  have hm : (UInt16.ofNat z.toNat).toNat = z.toNat := by simp; omega
  rw [hm, Int.toNat_of_nonneg hz.1, e1]
theorem u32_of_trod (u : P.underlying t = some (.int .u32)) (h : DataW.trod enc P w base spare held fuel t cs = some x) : ∃ y : UInt32, cs = [.int .u32 (y.toNat : Int)] := by
  obtain ⟨z, e1, _, wz⟩ := DataW.trod_int u h
  have hz : 0 ≤ z ∧ z ≤ 4294967295 := by simpa [Lit.wf, IntKind.min, IntKind.max, IntKind.signed, IntKind.bits] using wz
  refine ⟨UInt32.ofNat z.toNat, ?_⟩
  have hm : (UInt32.ofNat z.toNat).toNat = z.toNat := by simp; omega
  rw [hm, Int.toNat_of_nonneg hz.1, e1]
theorem i64_of_trod (u : P.underlying t = some (.int .i64)) (h : DataW.trod enc P w base spare held fuel t cs = some x) : ∃ y : Int64, cs = [.int .i64 y.toInt] := by
  obtain ⟨z, e1, _, wz⟩ := DataW.trod_int u h
  have hz : -9223372036854775808 ≤ z ∧ z ≤ 9223372036854775807 := by simpa [Lit.wf, IntKind.min, IntKind.max, IntKind.signed, IntKind.bits] using wz
  refine ⟨Int64.ofInt z, ?_⟩
  rw [Int64.toInt_ofInt_of_le (by omega) (by omega), e1]
theorem i32_of_trod (u : P.underlying t = some (.int .i32)) (h : DataW.trod enc P w base spare held fuel t cs = some x) : ∃ y : Int32, cs = [.int .i32 y.toInt] := by
  obtain ⟨z, e1, _, wz⟩ := DataW.trod_int u h
  have hz : -2147483648 ≤ z ∧ z ≤ 2147483647 := by simpa [Lit.wf, IntKind.min, IntKind.max, IntKind.signed, IntKind.bits] using wz
  refine ⟨Int32.ofInt z, ?_⟩
  rw [Int32.toInt_ofInt_of_le (by omega) (by omega), e1]
theorem sl_of_trod {α : Type} [Inhabited α] {E : Elem α} {e : TypeId} (u : P.underlying t = some (.slice e)) (hc : P.cellsOf e = E.sz)
    (hE : ∀ {fuel : Nat} {cs : List Value} {x : DataW H × List MemPlace}, DataW.trod enc P w 0 spare held fuel e cs = some x → ∃ y, cs = (E.val y).cells.toList ∧ E.ok (st0 w) y)
    (h : DataW.trod enc P w 0 spare held fuel t cs = some x) : ∃ A n c xs, cs = [.slice A n c] ∧ SL (st0 w) A n c E xs := by
  obtain ⟨A, n, c, rfl⟩ : ∃ A n c, cs = [.slice A n c] := by
    rcases Go.Deep.open_slice u h with ⟨hcs, _⟩ | ⟨a', len, cap, m, k, D, Pl, hcs, _⟩
    · exact ⟨_, _, _, hcs⟩
    · exact ⟨_, _, _, hcs⟩
  obtain ⟨xs, hs⟩ := sl_of_trod' u hc hE h
  exact ⟨A, n, c, xs, rfl, hs⟩
theorem open_pt_43 {fuel : Nat} {cs : List Value} {x : DataW H × List MemPlace} (h : DataW.trod enc Try.prog w 0 spare held fuel 43 cs = some x) : ∃ y : Pt, cs = (ptE.val y).cells.toList ∧ ptE.ok (st0 w) y := by
  obtain ⟨xs, n, _, _, hl, hlen, hf⟩ := DataW.trod_struct (inferInstance : U Try.prog 43 _).h h
  rw [show Try.prog.cellsOf 43 = 33 from by kernel_rfl] at hl
  simp only [List.size_toArray, List.length_cons, List.length_nil] at hlen
  have f0 := hf 0 { name := "Tx", type := 24, offset := 0, embedded := false, tag := "", pkgPath := "", byteOffset := 0 } rfl
  simp only at f0
  rw [List.getElem?_eq_getElem (show 0 < xs.length by omega)] at f0
  obtain ⟨y0, e0⟩ := key_of_trod f0
  rw [show Try.prog.cellsOf 24 = 32 from by kernel_rfl] at e0
  have f1 := hf 1 { name := "Index", type := 22, offset := 32, embedded := false, tag := "", pkgPath := "", byteOffset := 32 } rfl
  simp only at f1
  rw [List.getElem?_eq_getElem (show 1 < xs.length by omega)] at f1
  obtain ⟨y1, e1⟩ := u32_of_trod (inferInstance : U Try.prog 22 _).h f1
  rw [show Try.prog.cellsOf 22 = 1 from by kernel_rfl] at e1
  refine ⟨⟨y0, y1⟩, ?_, trivial⟩
  have e : cs = (cs.drop 0).take 32 ++ ((cs.drop 32).take 1 ++ (cs.drop 33)) := by
    rw [← piece cs 32 1 (r := 33) rfl, ← piece cs 0 32 (r := 32) rfl, List.drop_zero]
  rw [e0, e1, List.drop_of_length_le (show cs.length ≤ 33 by omega), List.append_nil] at e
  rw [e]
  simp [Value.cells, cats_toList]
theorem open_ot_37 {fuel : Nat} {cs : List Value} {x : DataW H × List MemPlace} (h : DataW.trod enc Try.prog w 0 spare held fuel 37 cs = some x) : ∃ y : Ot, cs = (otE.val y).cells.toList ∧ otE.ok (st0 w) y := by
  obtain ⟨xs, n, _, _, hl, hlen, hf⟩ := DataW.trod_struct (inferInstance : U Try.prog 37 _).h h
  rw [show Try.prog.cellsOf 37 = 33 from by kernel_rfl] at hl
  simp only [List.size_toArray, List.length_cons, List.length_nil] at hlen
  have f0 := hf 0 { name := "Value", type := 2, offset := 0, embedded := false, tag := "", pkgPath := "", byteOffset := 0 } rfl
  simp only at f0
  rw [List.getElem?_eq_getElem (show 0 < xs.length by omega)] at f0
  obtain ⟨y0, e0⟩ := i64_of_trod (inferInstance : U Try.prog 2 _).h f0
  rw [show Try.prog.cellsOf 2 = 1 from by kernel_rfl] at e0
  have f1 := hf 1 { name := "Lock", type := 24, offset := 1, embedded := false, tag := "", pkgPath := "", byteOffset := 8 } rfl
  simp only at f1
  rw [List.getElem?_eq_getElem (show 1 < xs.length by omega)] at f1
  obtain ⟨y1, e1⟩ := key_of_trod f1
  rw [show Try.prog.cellsOf 24 = 32 from by kernel_rfl] at e1
  refine ⟨⟨y0, y1⟩, ?_, trivial⟩
  have e : cs = (cs.drop 0).take 1 ++ ((cs.drop 1).take 32 ++ (cs.drop 33)) := by
    rw [← piece cs 1 32 (r := 33) rfl, ← piece cs 0 1 (r := 1) rfl, List.drop_zero]
  rw [e0, e1, List.drop_of_length_le (show cs.length ≤ 33 by omega), List.append_nil] at e
  rw [e]
  simp [Value.cells, cats_toList]
theorem open_tx_29 {fuel : Nat} {cs : List Value} {x : DataW H × List MemPlace} (h : DataW.trod enc Try.prog w 0 spare held fuel 29 cs = some x) : ∃ y : Tx, cs = (txE.val y).cells.toList ∧ txE.ok (st0 w) y := by
  obtain ⟨xs, n, _, _, hl, hlen, hf⟩ := DataW.trod_struct (inferInstance : U Try.prog 29 _).h h
  rw [show Try.prog.cellsOf 29 = 38 from by kernel_rfl] at hl
  simp only [List.size_toArray, List.length_cons, List.length_nil] at hlen
  have f0 := hf 0 { name := "Expiry", type := 22, offset := 0, embedded := false, tag := "", pkgPath := "", byteOffset := 0 } rfl
  simp only at f0
  rw [List.getElem?_eq_getElem (show 0 < xs.length by omega)] at f0
  obtain ⟨y0, e0⟩ := u32_of_trod (inferInstance : U Try.prog 22 _).h f0
  rw [show Try.prog.cellsOf 22 = 1 from by kernel_rfl] at e0
  have f1 := hf 1 { name := "Ins", type := 25, offset := 1, embedded := false, tag := "", pkgPath := "", byteOffset := 8 } rfl
  simp only at f1
  rw [List.getElem?_eq_getElem (show 1 < xs.length by omega)] at f1
  obtain ⟨A1, n1, c1, l1, e1, ok1⟩ := sl_of_trod (E := ptE) (inferInstance : U Try.prog 25 _).h (by kernel_rfl) (open_pt_43) f1
  rw [show Try.prog.cellsOf 25 = 1 from by kernel_rfl] at e1
  have f2 := hf 2 { name := "Outs", type := 26, offset := 2, embedded := false, tag := "", pkgPath := "", byteOffset := 32 } rfl
  simp only at f2
  rw [List.getElem?_eq_getElem (show 2 < xs.length by omega)] at f2
  obtain ⟨A2, n2, c2, l2, e2, ok2⟩ := sl_of_trod (E := otE) (inferInstance : U Try.prog 26 _).h (by kernel_rfl) (open_ot_37) f2
  rw [show Try.prog.cellsOf 26 = 1 from by kernel_rfl] at e2
  have f3 := hf 3 { name := "Anchor", type := 24, offset := 3, embedded := false, tag := "", pkgPath := "", byteOffset := 56 } rfl
  simp only at f3
  rw [List.getElem?_eq_getElem (show 3 < xs.length by omega)] at f3
  obtain ⟨y3, e3⟩ := key_of_trod f3
  rw [show Try.prog.cellsOf 24 = 32 from by kernel_rfl] at e3
  have f4 := hf 4 { name := "Nulls", type := 27, offset := 35, embedded := false, tag := "", pkgPath := "", byteOffset := 88 } rfl
  simp only at f4
  rw [List.getElem?_eq_getElem (show 4 < xs.length by omega)] at f4
  obtain ⟨A4, n4, c4, l4, e4, ok4⟩ := sl_of_trod (E := keyE) (inferInstance : U Try.prog 27 _).h (by kernel_rfl) (fun h => by obtain ⟨k, hk⟩ := key_of_trod h; exact ⟨k, hk, trivial⟩) f4
  rw [show Try.prog.cellsOf 27 = 1 from by kernel_rfl] at e4
  have f5 := hf 5 { name := "Notes", type := 27, offset := 36, embedded := false, tag := "", pkgPath := "", byteOffset := 112 } rfl
  simp only at f5
  rw [List.getElem?_eq_getElem (show 5 < xs.length by omega)] at f5
  obtain ⟨A5, n5, c5, l5, e5, ok5⟩ := sl_of_trod (E := keyE) (inferInstance : U Try.prog 27 _).h (by kernel_rfl) (fun h => by obtain ⟨k, hk⟩ := key_of_trod h; exact ⟨k, hk, trivial⟩) f5
  rw [show Try.prog.cellsOf 27 = 1 from by kernel_rfl] at e5
  have f6 := hf 6 { name := "Balance", type := 2, offset := 37, embedded := false, tag := "", pkgPath := "", byteOffset := 136 } rfl
  simp only at f6
  rw [List.getElem?_eq_getElem (show 6 < xs.length by omega)] at f6
  obtain ⟨y6, e6⟩ := i64_of_trod (inferInstance : U Try.prog 2 _).h f6
  rw [show Try.prog.cellsOf 2 = 1 from by kernel_rfl] at e6
  refine ⟨⟨y0, ⟨A1, n1, c1, l1⟩, ⟨A2, n2, c2, l2⟩, y3, ⟨A4, n4, c4, l4⟩, ⟨A5, n5, c5, l5⟩, y6⟩, ?_, ⟨ok1, ok2, ok4, ok5⟩⟩
  have e : cs = (cs.drop 0).take 1 ++ ((cs.drop 1).take 1 ++ ((cs.drop 2).take 1 ++ ((cs.drop 3).take 32 ++ ((cs.drop 35).take 1 ++ ((cs.drop 36).take 1 ++ ((cs.drop 37).take 1 ++ (cs.drop 38))))))) := by
    rw [← piece cs 37 1 (r := 38) rfl, ← piece cs 36 1 (r := 37) rfl, ← piece cs 35 1 (r := 36) rfl, ← piece cs 3 32 (r := 35) rfl, ← piece cs 2 1 (r := 3) rfl, ← piece cs 1 1 (r := 2) rfl, ← piece cs 0 1 (r := 1) rfl, List.drop_zero]
  rw [e0, e1, e2, e3, e4, e5, e6, List.drop_of_length_le (show cs.length ≤ 38 by omega), List.append_nil] at e
  rw [e]
  simp [Value.cells, cats_toList]
theorem agg_of {t : TypeId} {fs : Array Field} (u : P.underlying t = some (.struct fs)) {r : Reach} {v : Value} (hv : Value.okWide P w r base t v) : ∃ cs, v = .agg cs := by
  obtain ⟨cs, rfl, _, _⟩ : ∃ cs, v = .agg cs ∧ cs.size = P.cellsOf t ∧ Row.okWide P w r base t cs := by
    simpa [Value.okWide, u] using hv
  exact ⟨cs, rfl⟩
theorem open_struct {α : Type} {E : Elem α} {t : TypeId} {fs : Array Field} (u : P.underlying t = some (.struct fs)) (hs : ∀ x, E.val x = .agg (E.val x).cells)
    (hE : ∀ {fuel : Nat} {cs : List Value} {x : DataW H × List MemPlace}, DataW.trod enc P w 0 spare held fuel t cs = some x → ∃ y, cs = (E.val y).cells.toList ∧ E.ok (st0 w) y)
    {r : Reach} {b0 : Nat} {v : Value} {d : DataW H} {p : List MemPlace} (hv : Value.okWide P w r b0 t v) (h : DataW.Trod enc P w 0 spare held t v d p) : ∃ x, v = E.val x ∧ E.ok (st0 w) x := by
  obtain ⟨cs, rfl⟩ := agg_of u hv
  obtain ⟨fuel, hf⟩ := h
  obtain ⟨y, e, ok⟩ := hE hf
  refine ⟨y, ?_, ok⟩
  rw [hs y]
  congr 1
  exact Array.ext' e
theorem open_int1 {t : TypeId} {k : IntKind} (u : P.underlying t = some (.int k)) {r : Reach} {b0 : Nat} {v : Value} {d : DataW H} {p : List MemPlace} (hv : Value.okWide P w r b0 t v) (h : DataW.Trod enc P w 0 spare held t v d p) : ∃ z, v = .int k z ∧ ∃ fuel x, DataW.trod enc P w 0 spare held fuel t [.int k z] = some x := by
  obtain ⟨z, rfl, _⟩ := open_int u hv h
  obtain ⟨fuel, hf⟩ := h
  exact ⟨z, rfl, fuel, _, by simpa [Value.cells] using hf⟩
theorem open_bool1 {t : TypeId} (u : P.underlying t = some .bool) {r : Reach} {b0 : Nat} {v : Value} (hv : Value.okWide P w r b0 t v) : ∃ z, v = .bool z := by
  exact okWide_bool u hv
end
end Go.Proofs.Ytchdbmnikaacdaa
