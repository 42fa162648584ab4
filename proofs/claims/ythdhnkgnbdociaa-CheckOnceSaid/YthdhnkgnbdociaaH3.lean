/- check.Check, Fight, and the reference's, by contract. No condition. (Printed by gen_h3.py.) -/
import Derived.Test.YthdhnkgnbdociaaH2
set_option linter.all false
set_option maxHeartbeats 40000000
set_option synthInstance.maxHeartbeats 2000000
set_option synthInstance.maxSize 100000
namespace Go.Proofs.Ythdhnkgnbdociaa
open Go Go.RowKit
theorem cbM_zero {t : Tx} (h : cbM t = true) : zeroM t = true := by
  unfold cbM at h
  rw [Bool.and_eq_true, decide_eq_true_eq, decide_eq_true_eq] at h
  unfold zeroM
  rw [List.any_eq_true]
  exact ⟨t.ins.l[0]!, by rw [getElem!_pos _ 0 (by omega)]; exact List.getElem_mem _, by simpa using h.2⟩
structure Fa where
  e : Int
  o : Option FuncId
  deriving Inhabited
def fnV : Option FuncId → Value
  | none => .nilFunc
  | some g => .func (.func g) #[] #[]
instance one_fnV {o : Option FuncId} : One (fnV o) := ⟨by cases o <;> rfl⟩
@[reducible] def faE : Elem Fa := { sz := 2, agg := true, val := fun x => .agg (cats [#[.int .i64 x.e], #[fnV x.o]]), ok := fun _ _ => True, pos := by omega, size := fun x => (by have h : CSz (cats [#[.int .i64 x.e], #[fnV x.o]]) 2 := inferInstance; exact h.size), one := fun x => (by have h : CSz (cats [#[.int .i64 x.e], #[fnV x.o]]) 2 := inferInstance; exact h.one), shapeA := fun _ _ => rfl, shape1 := nofun }
instance se_fa : SmallE faE := ⟨by decide⟩
instance fv_fa : FlatV faE (fun x => .agg (cats [#[.int .i64 x.e], #[fnV x.o]])) := ⟨rfl⟩
instance eo_fa : ElemOf Try.prog 54 faE 16 := ⟨inferInstance⟩
instance ze_fa : ZeroE Try.prog 54 faE ⟨0, none⟩ := ZeroE.of (TZ.mk_ (by kernel_rfl)) (fun _ => trivial)
instance ev_fa {σ : St} {e : Int} {g : FuncId} : EncV σ faE (.agg (cats [#[.int .i64 e], #[.func (.func g) #[] #[]]])) ⟨e, some g⟩ := ⟨rfl, trivial⟩
def faL : List Fa := [⟨110, some 42⟩, ⟨112, some 43⟩, ⟨111, some 46⟩, ⟨20, some 48⟩]
def FL (t : Tx) (base : Bool) : List (Bool × Int) := [(emptyB t, 110), (coinB t base, 112), (repB t, 111), (moneyB t, 20)]
section
variable {σ : St} {v1 v2 : Value} {t u : Tx} {base : Bool}
instance rule_faults : CallRule Try.prog 20 [] σ (fun K _ => ∀ σ' A' m c', Nx σ σ' .no → SL σ' A' m c' faE faL → m = 4 → K (.slice A' m c') σ') := ⟨fun K E hK => by
  refine calls_enter Try.func20 rfl _ Try.ntmps20 rfl ?_
  (repeat (first | refine go ?_ | refine goR ?_ | refine goS (fun yc hyc => ?_) | refine goL (fun _ _ => inferInstance) ?_ | with_reducible intro _ | refine goO (by first | omega | (simp only [List.length_cons, List.length_nil]; omega)) ?_ | fail))
  exact backN (σ0 := σ) Try.results20 (fun σ' _ _ => hK σ' _ 4 4 inferInstance (by unfold faL; infer_instance) rfl)⟩
instance rule_Check [h : EncV σ txE v1 t] {e : Int} [q : Is (chkM t base) e] : CallRule Try.prog 11 [v1, .bool base] σ (fun K _ => ∀ σ', Nx σ σ' .no → K (.int .i64 e) σ') := ⟨fun K E hK => by
  have hq := q.eq; subst hq
  have e1 : v1 = .agg (cats [#[.int .u32 (t.exp.toNat : Int)], #[.slice t.ins.A t.ins.n t.ins.c], #[.slice t.outs.A t.outs.n t.outs.c], kc t.anchor, #[.slice t.nulls.A t.nulls.n t.nulls.c], #[.slice t.notes.A t.notes.n t.notes.c], #[.int .i64 t.bal.toInt]]) := h.eq
  subst e1
  haveI : OkE σ txE t := ⟨h.ok⟩
  by_cases he : encE t = 0
  · haveI := small_enc he
    haveI : Is (encE t) 0 := ⟨he⟩
    have ec : chkM t base = errsM (FL t base) := by unfold chkM; rw [if_pos he]; rfl
    rw [ec] at hK
    refine calls_enter Try.func11 rfl _ Try.ntmps11 rfl ?_
    (repeat (first | refine go ?_ | refine goR ?_ | refine goS (fun yc hyc => ?_) | refine goL (fun _ _ => inferInstance) ?_ | with_reducible intro _ | refine goO (by first | omega | (simp only [List.length_cons, List.length_nil]; omega)) ?_ | fail))
    rename (_ = 4) => hm4
    rename Option Addr => A0
    rename St => s0
    have hsl := (inferInstance : SL s0 A0 _ _ faE faL)
    subst hm4
    refine WC.loopW 2146959632 .no (fun (i : Nat) f s => At f 19 (.int .i64 (i : Int)) ∧ i ≤ 4 ∧ errsM (FL t base) = errsM ((FL t base).drop i)) (fun i => 4 - i) 0
      ⟨At.to (.int .i64 0) rfl, Nat.zero_le _, rfl⟩ ?_
    rintro i f s ha hs ⟨a8, hi, hz⟩
    by_cases hlt : i < 4
    · haveI : BV (decide ((i : Int) < ((4 : Nat) : Int))) true := ⟨decide_eq_true (by omega)⟩
      haveI : BV (decide ((i : Int) < 4)) true := ⟨decide_eq_true (by omega)⟩
      haveI : IdxLt i 4 := ⟨hlt⟩
      haveI : Fits .i64 ((i : Int) + 1) := Fits.i64 (by omega) (by omega)
      have h4 : i = 0 ∨ i = 1 ∨ i = 2 ∨ i = 3 := by omega
      have hst : errsM ((FL t base).drop i) = if ((FL t base)[i]!).1 then (faL[i]!).e else errsM ((FL t base).drop (i + 1)) := by
        rcases h4 with rfl | rfl | rfl | rfl <;> rfl
      haveI hact : ∀ (s2 : St) [OkE s2 txE t], ValRule Try.prog (fnV (faL[i]!).o) [.agg (cats [#[.int .u32 (t.exp.toNat : Int)], #[.slice t.ins.A t.ins.n t.ins.c], #[.slice t.outs.A t.outs.n t.outs.c], kc t.anchor, #[.slice t.nulls.A t.nulls.n t.nulls.c], #[.slice t.notes.A t.notes.n t.notes.c], #[.int .i64 t.bal.toInt]]), .bool base] s2 (fun K _ => ∀ σ', Nx s2 σ' .no → K (.bool ((FL t base)[i]!).1) σ') := fun s2 h2 => by
        rcases h4 with rfl | rfl | rfl | rfl
        · exact (inferInstance : ValRule Try.prog (.func (.func 42) #[] #[]) [.agg (cats [#[.int .u32 (t.exp.toNat : Int)], #[.slice t.ins.A t.ins.n t.ins.c], #[.slice t.outs.A t.outs.n t.outs.c], kc t.anchor, #[.slice t.nulls.A t.nulls.n t.nulls.c], #[.slice t.notes.A t.notes.n t.notes.c], #[.int .i64 t.bal.toInt]]), .bool base] s2 (fun K _ => ∀ σ', Nx s2 σ' .no → K (.bool (emptyB t)) σ'))
        · exact (inferInstance : ValRule Try.prog (.func (.func 43) #[] #[]) [.agg (cats [#[.int .u32 (t.exp.toNat : Int)], #[.slice t.ins.A t.ins.n t.ins.c], #[.slice t.outs.A t.outs.n t.outs.c], kc t.anchor, #[.slice t.nulls.A t.nulls.n t.nulls.c], #[.slice t.notes.A t.notes.n t.notes.c], #[.int .i64 t.bal.toInt]]), .bool base] s2 (fun K _ => ∀ σ', Nx s2 σ' .no → K (.bool (coinB t base)) σ'))
        · exact (inferInstance : ValRule Try.prog (.func (.func 46) #[] #[]) [.agg (cats [#[.int .u32 (t.exp.toNat : Int)], #[.slice t.ins.A t.ins.n t.ins.c], #[.slice t.outs.A t.outs.n t.outs.c], kc t.anchor, #[.slice t.nulls.A t.nulls.n t.nulls.c], #[.slice t.notes.A t.notes.n t.notes.c], #[.int .i64 t.bal.toInt]]), .bool base] s2 (fun K _ => ∀ σ', Nx s2 σ' .no → K (.bool (repB t)) σ'))
        · exact (inferInstance : ValRule Try.prog (.func (.func 48) #[] #[]) [.agg (cats [#[.int .u32 (t.exp.toNat : Int)], #[.slice t.ins.A t.ins.n t.ins.c], #[.slice t.outs.A t.outs.n t.outs.c], kc t.anchor, #[.slice t.nulls.A t.nulls.n t.nulls.c], #[.slice t.notes.A t.notes.n t.notes.c], #[.int .i64 t.bal.toInt]]), .bool base] s2 (fun K _ => ∀ σ', Nx s2 σ' .no → K (.bool (moneyB t)) σ'))
      cases hb : ((FL t base)[i]!).1 with
      | true =>
        haveI : BV ((FL t base)[i]!).1 true := ⟨hb⟩
        rw [hz, hst, hb] at hK
        have hK : ∀ σ', Nx σ σ' .no → K (.int .i64 (faL[i]!).e) σ' := hK
        (repeat (first | refine go ?_ | refine goR ?_ | refine goS (fun yc hyc => ?_) | refine goL (fun _ _ => inferInstance) ?_ | with_reducible intro _ | refine goO (by first | omega | (simp only [List.length_cons, List.length_nil]; omega)) ?_ | fail))
        exact backN (σ0 := σ) Try.results11 (fun σ' _ _ => hK σ' inferInstance)
      | false =>
        haveI : BV ((FL t base)[i]!).1 false := ⟨hb⟩
        rw [hb] at hst
        (repeat (first | refine go ?_ | refine goR ?_ | refine goS (fun yc hyc => ?_) | refine goL (fun _ _ => inferInstance) ?_ | with_reducible intro _ | refine goO (by first | omega | (simp only [List.length_cons, List.length_nil]; omega)) ?_ | fail))
        exact loop_w (i + 1) ⟨At.to (.int .i64 ((i : Int) + 1)) (by simp), hlt, hz.trans hst⟩ (by omega)
    · haveI : BV (decide ((i : Int) < ((4 : Nat) : Int))) false := ⟨decide_eq_false (by omega)⟩
      haveI : BV (decide ((i : Int) < 4)) false := ⟨decide_eq_false (by omega)⟩
      have e4 : i = 4 := by omega
      subst e4
      rw [hz] at hK
      have hK : ∀ σ', Nx σ σ' .no → K (.int .i64 0) σ' := hK
      (repeat (first | refine go ?_ | refine goR ?_ | refine goS (fun yc hyc => ?_) | refine goL (fun _ _ => inferInstance) ?_ | with_reducible intro _ | refine goO (by first | omega | (simp only [List.length_cons, List.length_nil]; omega)) ?_ | fail))
      exact backN (σ0 := σ) Try.results11 (fun σ' _ _ => hK σ' inferInstance)
  · haveI : BV (decide (encE t = 0)) false := ⟨decide_eq_false he⟩
    have ec : chkM t base = encE t := by unfold chkM; rw [if_neg he]
    rw [ec] at hK
    refine calls_enter Try.func11 rfl _ Try.ntmps11 rfl ?_
    (repeat (first | refine go ?_ | refine goR ?_ | refine goS (fun yc hyc => ?_) | refine goL (fun _ _ => inferInstance) ?_ | with_reducible intro _ | refine goO (by first | omega | (simp only [List.length_cons, List.length_nil]; omega)) ?_ | fail))
    exact backN (σ0 := σ) Try.results11 (fun σ' _ _ => hK σ' inferInstance)⟩
instance rule_Fight1 {b : Nat} {x : Pt} [o : Own σ b 29 (cats [#[.int .u32 (u.exp.toNat : Int)], #[.slice u.ins.A u.ins.n u.ins.c], #[.slice u.outs.A u.outs.n u.outs.c], kc u.anchor, #[.slice u.nulls.A u.nulls.n u.nulls.c], #[.slice u.notes.A u.notes.n u.notes.c], #[.int .i64 u.bal.toInt]])] [h : OkE σ txE u] {bb : Bool} [q : BV (u.ins.l.any fun y => decide (y = x)) bb] : CallRule Try.prog 27 [.agg (cats [kc x.tx, #[.int .u32 (x.idx.toNat : Int)]]), .pointer (some ⟨b, 0, none⟩)] σ (fun K _ => ∀ σ', Nx σ σ' .no → K (.bool bb) σ') := ⟨fun K E hK => by
  have hq := q.eq; subst hq
  refine calls_enter Try.func27 rfl _ Try.ntmps27 rfl ?_
  (repeat (first | refine go ?_ | refine goR ?_ | refine goS (fun yc hyc => ?_) | refine goL (fun _ _ => inferInstance) ?_ | with_reducible intro _ | refine goO (by first | omega | (simp only [List.length_cons, List.length_nil]; omega)) ?_ | fail))
  exact backN (σ0 := σ) Try.results27 (fun σ' _ _ => hK σ' inferInstance)⟩
instance predF_fight {b : Nat} [o : Own σ b 29 (cats [#[.int .u32 (u.exp.toNat : Int)], #[.slice u.ins.A u.ins.n u.ins.c], #[.slice u.outs.A u.outs.n u.outs.c], kc u.anchor, #[.slice u.nulls.A u.nulls.n u.nulls.c], #[.slice u.notes.A u.notes.n u.notes.c], #[.int .i64 u.bal.toInt]])] [h : OkE σ txE u] : PredF Try.prog σ .no (.func (.func 27) #[] #[.pointer (some ⟨b, 0, none⟩)]) ptE (fun x => u.ins.l.any fun y => decide (y = x)) := ⟨fun s x hn _ => by
  haveI := hn
  exact (inferInstance : ValRule Try.prog (.func (.func 27) #[] #[.pointer (some ⟨b, 0, none⟩)]) [.agg (cats [kc x.tx, #[.int .u32 (x.idx.toNat : Int)]])] s (fun K _ => ∀ σ', Nx s σ' .no → K (.bool (u.ins.l.any fun y => decide (y = x))) σ'))⟩
instance rule_Fight [h : EncV σ txE v1 t] [g : EncV σ txE v2 u] {bb : Bool} [q : BV (fightM t u) bb] : CallRule Try.prog 15 [v1, v2] σ (fun K _ => (t.nulls.n ≤ 4398046511104 ∧ u.nulls.n ≤ 4398046511104) ∧ ∀ σ', Nx σ σ' .no → K (.bool bb) σ') := ⟨fun K E hK => by
  obtain ⟨hn, hK⟩ := hK
  have hq := q.eq; subst hq
  have e1 : v1 = .agg (cats [#[.int .u32 (t.exp.toNat : Int)], #[.slice t.ins.A t.ins.n t.ins.c], #[.slice t.outs.A t.outs.n t.outs.c], kc t.anchor, #[.slice t.nulls.A t.nulls.n t.nulls.c], #[.slice t.notes.A t.notes.n t.notes.c], #[.int .i64 t.bal.toInt]]) := h.eq
  have e2 : v2 = .agg (cats [#[.int .u32 (u.exp.toNat : Int)], #[.slice u.ins.A u.ins.n u.ins.c], #[.slice u.outs.A u.outs.n u.outs.c], kc u.anchor, #[.slice u.nulls.A u.nulls.n u.nulls.c], #[.slice u.notes.A u.notes.n u.notes.c], #[.int .i64 u.bal.toInt]]) := g.eq
  subst e1; subst e2
  haveI : OkE σ txE t := ⟨h.ok⟩
  haveI : OkE σ txE u := ⟨g.ok⟩
  cases ha : t.ins.l.any (fun p => u.ins.l.any fun x => decide (x = p)) with
  | true =>
    haveI : BV (t.ins.l.any (fun p => u.ins.l.any fun x => decide (x = p))) true := ⟨ha⟩
    have e : fightM t u = true := by unfold fightM; rw [ha]; rfl
    rw [e] at hK
    refine calls_enter Try.func15 rfl _ Try.ntmps15 rfl ?_
    (repeat (first | refine go ?_ | refine goR ?_ | refine goS (fun yc hyc => ?_) | refine goL (fun _ _ => inferInstance) ?_ | with_reducible intro _ | refine goO (by first | omega | (simp only [List.length_cons, List.length_nil]; omega)) ?_ | fail))
    exact backN (σ0 := σ) Try.results15 (fun σ' _ _ => hK σ' inferInstance)
  | false =>
    haveI : BV (t.ins.l.any (fun p => u.ins.l.any fun x => decide (x = p))) false := ⟨ha⟩
    have e : fightM t u = meetK t.nulls.l u.nulls.l := by unfold fightM; rw [ha]; rfl
    rw [e] at hK
    refine calls_enter Try.func15 rfl _ Try.ntmps15 rfl ?_
    (repeat (first | refine go ?_ | refine goR ?_ | refine goS (fun yc hyc => ?_) | refine goL (fun _ _ => inferInstance) ?_ | with_reducible intro _ | refine goO (by first | omega | (simp only [List.length_cons, List.length_nil]; omega)) ?_ | fail))
    exact backN (σ0 := σ) Try.results15 (fun σ' _ _ => hK σ' inferInstance)⟩
instance rule_ref_Fight [h : EncV σ txE v1 t] [g : EncV σ txE v2 u] {bb : Bool} [q : BV (fightM t u) bb] : CallRule Try.prog 16 [v1, v2] σ (fun K _ => (t.nulls.n ≤ 4398046511104 ∧ u.nulls.n ≤ 4398046511104) ∧ ∀ σ', Nx σ σ' .no → K (.bool bb) σ') := ⟨fun K E hK => by
  obtain ⟨hn, hK⟩ := hK
  have hq := q.eq; subst hq
  have e1 : v1 = .agg (cats [#[.int .u32 (t.exp.toNat : Int)], #[.slice t.ins.A t.ins.n t.ins.c], #[.slice t.outs.A t.outs.n t.outs.c], kc t.anchor, #[.slice t.nulls.A t.nulls.n t.nulls.c], #[.slice t.notes.A t.notes.n t.notes.c], #[.int .i64 t.bal.toInt]]) := h.eq
  have e2 : v2 = .agg (cats [#[.int .u32 (u.exp.toNat : Int)], #[.slice u.ins.A u.ins.n u.ins.c], #[.slice u.outs.A u.outs.n u.outs.c], kc u.anchor, #[.slice u.nulls.A u.nulls.n u.nulls.c], #[.slice u.notes.A u.notes.n u.notes.c], #[.int .i64 u.bal.toInt]]) := g.eq
  subst e1; subst e2
  haveI : OkE σ txE t := ⟨h.ok⟩
  haveI : OkE σ txE u := ⟨g.ok⟩
  have hs1 := (inferInstance : SL σ t.ins.A t.ins.n t.ins.c ptE t.ins.l)
  have hs2 := (inferInstance : SL σ u.ins.A u.ins.n u.ins.c ptE u.ins.l)
  have hl1 := hs1.len
  have hm1 := hs1.max
  have hl2 := hs2.len
  have hm2 := hs2.max
  refine calls_enter Try.func16 rfl _ Try.ntmps16 rfl ?_
  (repeat (first | refine go ?_ | refine goR ?_ | refine goS (fun yc hyc => ?_) | refine goL (fun _ _ => inferInstance) ?_ | with_reducible intro _ | refine goO (by first | omega | (simp only [List.length_cons, List.length_nil]; omega)) ?_ | fail))
  refine WC.loopW 4294967280 .no (fun (i : Nat) f s => At f 5 (.int .i64 (i : Int)) ∧ i ≤ t.ins.n ∧ (t.ins.l.take i).any (fun p => u.ins.l.any fun x => decide (x = p)) = false) (fun i => t.ins.n - i) 0
    ⟨At.to (.int .i64 0) rfl, Nat.zero_le _, rfl⟩ ?_
  rintro i f s ha hs ⟨a8, hi, hz⟩
  by_cases hlt : i < t.ins.n
  · haveI : BV (decide ((i : Int) < (t.ins.n : Int))) true := ⟨by simpa using hlt⟩
    haveI : IdxLt i t.ins.n := ⟨hlt⟩
    haveI : Fits .i64 ((i : Int) + 1) := Fits.i64 (by omega) (by omega)
    have hst := any_take (p := fun p : Pt => u.ins.l.any fun x => decide (x = p)) (xs := t.ins.l) (i := i) (by omega)
    (repeat (first | refine go ?_ | refine goR ?_ | refine goS (fun yc hyc => ?_) | refine goL (fun _ _ => inferInstance) ?_ | with_reducible intro _ | refine goO (by first | omega | (simp only [List.length_cons, List.length_nil]; omega)) ?_ | fail))
    refine WC.loopW 4294950992 .no (fun (j : Nat) f s => At f 6 (.int .i64 (j : Int)) ∧ j ≤ u.ins.n ∧ (u.ins.l.take j).any (fun x => decide (x = t.ins.l[i]!)) = false) (fun j => u.ins.n - j) 0
      ⟨At.to (.int .i64 0) rfl, Nat.zero_le _, rfl⟩ ?_
    rintro j f2 s2 ha2 hs2 ⟨a4, hj, hz2⟩
    by_cases hlt2 : j < u.ins.n
    · haveI : BV (decide ((j : Int) < (u.ins.n : Int))) true := ⟨by simpa using hlt2⟩
      haveI : IdxLt j u.ins.n := ⟨hlt2⟩
      haveI : Fits .i64 ((j : Int) + 1) := Fits.i64 (by omega) (by omega)
      have hst2 := any_take (p := fun p : Pt => decide (p = t.ins.l[i]!)) (xs := u.ins.l) (i := j) (by omega)
      by_cases hk : t.ins.l[i]! = u.ins.l[j]!
      · haveI : BV (decide (t.ins.l[i]! = u.ins.l[j]!)) true := ⟨by simpa using hk⟩
        have e : fightM t u = true := by
          unfold fightM
          rw [Bool.or_eq_true]
          refine .inl ?_
          rw [List.any_eq_true]
          refine ⟨t.ins.l[i]!, by rw [getElem!_pos _ i (by omega)]; exact List.getElem_mem _, ?_⟩
          rw [List.any_eq_true]
          exact ⟨u.ins.l[j]!, by rw [getElem!_pos _ j (by omega)]; exact List.getElem_mem _, by simpa using hk.symm⟩
        rw [e] at hK
        (repeat (first | refine go ?_ | refine goR ?_ | refine goS (fun yc hyc => ?_) | refine goL (fun _ _ => inferInstance) ?_ | with_reducible intro _ | refine goO (by first | omega | (simp only [List.length_cons, List.length_nil]; omega)) ?_ | fail))
        refine WC.draw [] (.l 0 (.l 1 (.p 2 (.l 3 (.l 4 (.l 5 (.l 6 (.p 7 (.l 8 (.l 9 (.p 10 .nil))))))))))) mixed (by decide +kernel) ?_
        (repeat' (first | refine go ?_ | refine goR ?_ | refine goS (fun yc hyc => ?_) | refine goL (fun _ _ => inferInstance) ?_ | refine goF ?_ ?_ | with_reducible intro _ | refine goO (by first | omega | (simp only [List.length_cons, List.length_nil]; omega)) ?_ | fail))
        all_goals exact backN (σ0 := σ) Try.results16 (fun σ' _ _ => hK σ' inferInstance)
      · haveI : BV (decide (t.ins.l[i]! = u.ins.l[j]!)) false := ⟨by simpa using hk⟩
        (repeat (first | refine go ?_ | refine goR ?_ | refine goS (fun yc hyc => ?_) | refine goL (fun _ _ => inferInstance) ?_ | with_reducible intro _ | refine goO (by first | omega | (simp only [List.length_cons, List.length_nil]; omega)) ?_ | fail))
        refine WC.draw [] (.l 0 (.l 1 (.p 2 (.l 3 (.l 4 (.l 5 (.l 6 (.p 7 (.l 8 (.l 9 (.p 10 .nil))))))))))) mixed (by decide +kernel) ?_
        (repeat' (first | refine go ?_ | refine goR ?_ | refine goS (fun yc hyc => ?_) | refine goL (fun _ _ => inferInstance) ?_ | refine goF ?_ ?_ | with_reducible intro _ | refine goO (by first | omega | (simp only [List.length_cons, List.length_nil]; omega)) ?_ | fail))
        all_goals exact loop_w (j + 1) ⟨At.to (.int .i64 ((j : Int) + 1)) (by simp), hlt2, by rw [hst2, hz2]; simpa using Ne.symm hk⟩ (by omega)
    · haveI : BV (decide ((j : Int) < (u.ins.n : Int))) false := ⟨by simpa using hlt2⟩
      rw [take_all (by omega)] at hz2
      (repeat (first | refine go ?_ | refine goR ?_ | refine goS (fun yc hyc => ?_) | refine goL (fun _ _ => inferInstance) ?_ | with_reducible intro _ | refine goO (by first | omega | (simp only [List.length_cons, List.length_nil]; omega)) ?_ | fail))
      exact loop_w (i + 1) ⟨At.to (.int .i64 ((i : Int) + 1)) (by simp), hlt, by rw [hst, hz, hz2]; rfl⟩ (by omega)
  · haveI : BV (decide ((i : Int) < (t.ins.n : Int))) false := ⟨by simpa using hlt⟩
    rw [take_all (by omega)] at hz
    have e : fightM t u = meetK t.nulls.l u.nulls.l := by unfold fightM; rw [hz]; rfl
    rw [e] at hK
    (repeat (first | refine go ?_ | refine goR ?_ | refine goS (fun yc hyc => ?_) | refine goL (fun _ _ => inferInstance) ?_ | with_reducible intro _ | refine goO (by first | omega | (simp only [List.length_cons, List.length_nil]; omega)) ?_ | fail))
    exact backN (σ0 := σ) Try.results16 (fun σ' _ _ => hK σ' inferInstance)⟩
instance rule_ref_Check [h : EncV σ txE v1 t] {e : Int} [q : Is (chkM t base) e] : CallRule Try.prog 14 [v1, .bool base] σ (fun K _ => ∀ σ', Nx σ σ' .no → K (.int .i64 e) σ') := ⟨fun K E hK => by
  have hq := q.eq; subst hq
  have e1 : v1 = .agg (cats [#[.int .u32 (t.exp.toNat : Int)], #[.slice t.ins.A t.ins.n t.ins.c], #[.slice t.outs.A t.outs.n t.outs.c], kc t.anchor, #[.slice t.nulls.A t.nulls.n t.nulls.c], #[.slice t.notes.A t.notes.n t.notes.c], #[.int .i64 t.bal.toInt]]) := h.eq
  subst e1
  haveI : OkE σ txE t := ⟨h.ok⟩
  have hl1 := (inferInstance : SL σ t.ins.A t.ins.n t.ins.c ptE t.ins.l).len
  have hl2 := (inferInstance : SL σ t.outs.A t.outs.n t.outs.c otE t.outs.l).len
  have hl3 := (inferInstance : SL σ t.nulls.A t.nulls.n t.nulls.c keyE t.nulls.l).len
  have hl4 := (inferInstance : SL σ t.notes.A t.notes.n t.notes.c keyE t.notes.l).len
  by_cases he : encE t = 0
  · skip
    haveI := small_enc he
    have hsm := (small_enc he).h
    haveI : Is (encE t) 0 := ⟨he⟩
    have hvl : (valsM t).length = t.outs.n := by simp [valsM]; omega
    haveI : Fits .i64 ((t.ins.n : Int) + (t.nulls.n : Int)) := Fits.i64 (by omega) (by omega)
    haveI : Fits .i64 ((t.outs.n : Int) + (t.notes.n : Int)) := Fits.i64 (by omega) (by omega)
    by_cases hA : t.ins.n + t.nulls.n = 0
    · skip
      haveI : BV (decide ((((t.ins.n : Int) + (t.nulls.n : Int)) = 0))) true := ⟨decide_eq_true (by omega)⟩
      have e : chkM t base = 110 := by
        have hem : emptyB t = true := (by unfold emptyB; simp; omega)
        simp [chkM, errsM, he, hem]
      rw [e] at hK
      refine calls_enter Try.func14 rfl _ Try.ntmps14 rfl ?_
      (repeat (first | refine go ?_ | refine goR ?_ | refine goS (fun yc hyc => ?_) | refine goL (fun _ _ => inferInstance) ?_ | with_reducible intro _ | refine goO (by first | omega | (simp only [List.length_cons, List.length_nil]; omega)) ?_ | fail))
      exact backN (σ0 := σ) Try.results14 (fun σ' _ _ => hK σ' inferInstance)
    · skip
      haveI : BV (decide ((((t.ins.n : Int) + (t.nulls.n : Int)) = 0))) false := ⟨decide_eq_false (by omega)⟩
      by_cases hB : t.outs.n + t.notes.n = 0
      · skip
        haveI : BV (decide ((((t.outs.n : Int) + (t.notes.n : Int)) = 0))) true := ⟨decide_eq_true (by omega)⟩
        have e : chkM t base = 110 := by
          have hem : emptyB t = true := (by unfold emptyB; simp; omega)
          simp [chkM, errsM, he, hem]
        rw [e] at hK
        refine calls_enter Try.func14 rfl _ Try.ntmps14 rfl ?_
        (repeat (first | refine go ?_ | refine goR ?_ | refine goS (fun yc hyc => ?_) | refine goL (fun _ _ => inferInstance) ?_ | with_reducible intro _ | refine goO (by first | omega | (simp only [List.length_cons, List.length_nil]; omega)) ?_ | fail))
        exact backN (σ0 := σ) Try.results14 (fun σ' _ _ => hK σ' inferInstance)
      · skip
        haveI : BV (decide ((((t.outs.n : Int) + (t.notes.n : Int)) = 0))) false := ⟨decide_eq_false (by omega)⟩
        have hem : emptyB t = false := by unfold emptyB; simp; omega
        cases base with
        | false =>
          cases hc : cbM t with
          | false =>
            haveI : BV (cbM t) false := ⟨hc⟩
            cases hz : zeroM t with
            | true =>
              haveI : BV (zeroM t) true := ⟨hz⟩
              have e : chkM t false = 112 := by
                have hco : coinB t false = true := hz
                simp [chkM, errsM, he, hem, hco]
              rw [e] at hK
              refine calls_enter Try.func14 rfl _ Try.ntmps14 rfl ?_
              (repeat (first | refine go ?_ | refine goR ?_ | refine goS (fun yc hyc => ?_) | refine goL (fun _ _ => inferInstance) ?_ | with_reducible intro _ | refine goO (by first | omega | (simp only [List.length_cons, List.length_nil]; omega)) ?_ | fail))
              exact backN (σ0 := σ) Try.results14 (fun σ' _ _ => hK σ' inferInstance)
            | false =>
              haveI : BV (zeroM t) false := ⟨hz⟩
              have hco : coinB t false = false := by exact hz
              cases hp : ptD t.ins.l with
              | false =>
                haveI : BV (ptD t.ins.l) false := ⟨hp⟩
                have e : chkM t false = 111 := by
                  have hre : repB t = true := (by unfold repB; simp [hp])
                  simp [chkM, errsM, he, hem, hco, hre]
                rw [e] at hK
                refine calls_enter Try.func14 rfl _ Try.ntmps14 rfl ?_
                (repeat (first | refine go ?_ | refine goR ?_ | refine goS (fun yc hyc => ?_) | refine goL (fun _ _ => inferInstance) ?_ | with_reducible intro _ | refine goO (by first | omega | (simp only [List.length_cons, List.length_nil]; omega)) ?_ | fail))
                exact backN (σ0 := σ) Try.results14 (fun σ' _ _ => hK σ' inferInstance)
              | true =>
                haveI : BV (ptD t.ins.l) true := ⟨hp⟩
                cases hd : distK t.nulls.l with
                | false =>
                  haveI : BV (distK t.nulls.l) false := ⟨hd⟩
                  have e : chkM t false = 111 := by
                    have hre : repB t = true := (by unfold repB; simp [hd])
                    simp [chkM, errsM, he, hem, hco, hre]
                  rw [e] at hK
                  refine calls_enter Try.func14 rfl _ Try.ntmps14 rfl ?_
                  (repeat (first | refine go ?_ | refine goR ?_ | refine goS (fun yc hyc => ?_) | refine goL (fun _ _ => inferInstance) ?_ | with_reducible intro _ | refine goO (by first | omega | (simp only [List.length_cons, List.length_nil]; omega)) ?_ | fail))
                  exact backN (σ0 := σ) Try.results14 (fun σ' _ _ => hK σ' inferInstance)
                | true =>
                  haveI : BV (distK t.nulls.l) true := ⟨hd⟩
                  have hre : repB t = false := by unfold repB; simp [hp, hd]
                  cases hs : sumM (valsM t) with
                  | none =>
                    haveI : Is (sumM (valsM t)) none := ⟨hs⟩
                    have e : chkM t false = 20 := by
                      have hmo : moneyB t = true := (by unfold moneyB; simp [hs]; try omega)
                      simp [chkM, errsM, he, hem, hco, hre, hmo]
                    rw [e] at hK
                    refine calls_enter Try.func14 rfl _ Try.ntmps14 rfl ?_
                    (repeat (first | refine go ?_ | refine goR ?_ | refine goS (fun yc hyc => ?_) | refine goL (fun _ _ => inferInstance) ?_ | with_reducible intro _ | refine goO (by first | omega | (simp only [List.length_cons, List.length_nil]; omega)) ?_ | fail))
                    exact backN (σ0 := σ) Try.results14 (fun σ' _ _ => hK σ' inferInstance)
                  | some r =>
                    haveI : Is (sumM (valsM t)) (some r) := ⟨hs⟩
                    by_cases g1 : t.bal.toInt < -2100000000000000
                    · skip
                      haveI : BV (decide (((t.bal.toInt : Int) < -2100000000000000))) true := ⟨decide_eq_true (by omega)⟩
                      haveI : BV (decide (((-2100000000000000 : Int) > (t.bal.toInt : Int)))) true := ⟨decide_eq_true (by omega)⟩
                      have e : chkM t false = 20 := by
                        have hmo : moneyB t = true := (by unfold moneyB; simp [hs]; try omega)
                        simp [chkM, errsM, he, hem, hco, hre, hmo]
                      rw [e] at hK
                      refine calls_enter Try.func14 rfl _ Try.ntmps14 rfl ?_
                      (repeat (first | refine go ?_ | refine goR ?_ | refine goS (fun yc hyc => ?_) | refine goL (fun _ _ => inferInstance) ?_ | with_reducible intro _ | refine goO (by first | omega | (simp only [List.length_cons, List.length_nil]; omega)) ?_ | fail))
                      exact backN (σ0 := σ) Try.results14 (fun σ' _ _ => hK σ' inferInstance)
                    · skip
                      haveI : BV (decide (((t.bal.toInt : Int) < -2100000000000000))) false := ⟨decide_eq_false (by omega)⟩
                      haveI : BV (decide (((-2100000000000000 : Int) > (t.bal.toInt : Int)))) false := ⟨decide_eq_false (by omega)⟩
                      by_cases g2 : 2100000000000000 < t.bal.toInt
                      · skip
                        haveI : BV (decide (((t.bal.toInt : Int) > 2100000000000000))) true := ⟨decide_eq_true (by omega)⟩
                        haveI : BV (decide (((2100000000000000 : Int) < (t.bal.toInt : Int)))) true := ⟨decide_eq_true (by omega)⟩
                        have e : chkM t false = 20 := by
                          have hmo : moneyB t = true := (by unfold moneyB; simp [hs]; try omega)
                          simp [chkM, errsM, he, hem, hco, hre, hmo]
                        rw [e] at hK
                        refine calls_enter Try.func14 rfl _ Try.ntmps14 rfl ?_
                        (repeat (first | refine go ?_ | refine goR ?_ | refine goS (fun yc hyc => ?_) | refine goL (fun _ _ => inferInstance) ?_ | with_reducible intro _ | refine goO (by first | omega | (simp only [List.length_cons, List.length_nil]; omega)) ?_ | fail))
                        exact backN (σ0 := σ) Try.results14 (fun σ' _ _ => hK σ' inferInstance)
                      · skip
                        haveI : BV (decide (((t.bal.toInt : Int) > 2100000000000000))) false := ⟨decide_eq_false (by omega)⟩
                        haveI : BV (decide (((2100000000000000 : Int) < (t.bal.toInt : Int)))) false := ⟨decide_eq_false (by omega)⟩
                        by_cases g3 : 0 < t.bal.toInt
                        · skip
                          haveI : BV (decide (((t.bal.toInt : Int) > 0))) true := ⟨decide_eq_true (by omega)⟩
                          haveI : BV (decide (((0 : Int) < (t.bal.toInt : Int)))) true := ⟨decide_eq_true (by omega)⟩
                          by_cases g5 : t.nulls.n = 0
                          · skip
                            haveI : BV (decide (((t.nulls.n : Int) = 0))) true := ⟨decide_eq_true (by omega)⟩
                            have e : chkM t false = 20 := by
                              have hmo : moneyB t = true := (by unfold moneyB; simp [hs]; try omega)
                              simp [chkM, errsM, he, hem, hco, hre, hmo]
                            rw [e] at hK
                            refine calls_enter Try.func14 rfl _ Try.ntmps14 rfl ?_
                            (repeat (first | refine go ?_ | refine goR ?_ | refine goS (fun yc hyc => ?_) | refine goL (fun _ _ => inferInstance) ?_ | with_reducible intro _ | refine goO (by first | omega | (simp only [List.length_cons, List.length_nil]; omega)) ?_ | fail))
                            exact backN (σ0 := σ) Try.results14 (fun σ' _ _ => hK σ' inferInstance)
                          · skip
                            haveI : BV (decide (((t.nulls.n : Int) = 0))) false := ⟨decide_eq_false (by omega)⟩
                            haveI : BV (decide (((t.bal.toInt : Int) < 0))) false := ⟨decide_eq_false (by omega)⟩
                            haveI : BV (decide (((0 : Int) > (t.bal.toInt : Int)))) false := ⟨decide_eq_false (by omega)⟩
                            have e : chkM t false = 0 := by
                              have hmo : moneyB t = false := (by unfold moneyB; simp [hs]; try omega)
                              simp [chkM, errsM, he, hem, hco, hre, hmo]
                            rw [e] at hK
                            refine calls_enter Try.func14 rfl _ Try.ntmps14 rfl ?_
                            (repeat (first | refine go ?_ | refine goR ?_ | refine goS (fun yc hyc => ?_) | refine goL (fun _ _ => inferInstance) ?_ | with_reducible intro _ | refine goO (by first | omega | (simp only [List.length_cons, List.length_nil]; omega)) ?_ | fail))
                            exact backN (σ0 := σ) Try.results14 (fun σ' _ _ => hK σ' inferInstance)
                        · skip
                          haveI : BV (decide (((t.bal.toInt : Int) > 0))) false := ⟨decide_eq_false (by omega)⟩
                          haveI : BV (decide (((0 : Int) < (t.bal.toInt : Int)))) false := ⟨decide_eq_false (by omega)⟩
                          by_cases g4 : t.bal.toInt < 0
                          · skip
                            haveI : BV (decide (((t.bal.toInt : Int) < 0))) true := ⟨decide_eq_true (by omega)⟩
                            haveI : BV (decide (((0 : Int) > (t.bal.toInt : Int)))) true := ⟨decide_eq_true (by omega)⟩
                            by_cases g5 : t.notes.n = 0
                            · skip
                              haveI : BV (decide (((t.notes.n : Int) = 0))) true := ⟨decide_eq_true (by omega)⟩
                              have e : chkM t false = 20 := by
                                have hmo : moneyB t = true := (by unfold moneyB; simp [hs]; try omega)
                                simp [chkM, errsM, he, hem, hco, hre, hmo]
                              rw [e] at hK
                              refine calls_enter Try.func14 rfl _ Try.ntmps14 rfl ?_
                              (repeat (first | refine go ?_ | refine goR ?_ | refine goS (fun yc hyc => ?_) | refine goL (fun _ _ => inferInstance) ?_ | with_reducible intro _ | refine goO (by first | omega | (simp only [List.length_cons, List.length_nil]; omega)) ?_ | fail))
                              exact backN (σ0 := σ) Try.results14 (fun σ' _ _ => hK σ' inferInstance)
                            · skip
                              haveI : BV (decide (((t.notes.n : Int) = 0))) false := ⟨decide_eq_false (by omega)⟩
                              have e : chkM t false = 0 := by
                                have hmo : moneyB t = false := (by unfold moneyB; simp [hs]; try omega)
                                simp [chkM, errsM, he, hem, hco, hre, hmo]
                              rw [e] at hK
                              refine calls_enter Try.func14 rfl _ Try.ntmps14 rfl ?_
                              (repeat (first | refine go ?_ | refine goR ?_ | refine goS (fun yc hyc => ?_) | refine goL (fun _ _ => inferInstance) ?_ | with_reducible intro _ | refine goO (by first | omega | (simp only [List.length_cons, List.length_nil]; omega)) ?_ | fail))
                              exact backN (σ0 := σ) Try.results14 (fun σ' _ _ => hK σ' inferInstance)
                          · skip
                            haveI : BV (decide (((t.bal.toInt : Int) < 0))) false := ⟨decide_eq_false (by omega)⟩
                            haveI : BV (decide (((0 : Int) > (t.bal.toInt : Int)))) false := ⟨decide_eq_false (by omega)⟩
                            have e : chkM t false = 0 := by
                              have hmo : moneyB t = false := (by unfold moneyB; simp [hs]; try omega)
                              simp [chkM, errsM, he, hem, hco, hre, hmo]
                            rw [e] at hK
                            refine calls_enter Try.func14 rfl _ Try.ntmps14 rfl ?_
                            (repeat (first | refine go ?_ | refine goR ?_ | refine goS (fun yc hyc => ?_) | refine goL (fun _ _ => inferInstance) ?_ | with_reducible intro _ | refine goO (by first | omega | (simp only [List.length_cons, List.length_nil]; omega)) ?_ | fail))
                            exact backN (σ0 := σ) Try.results14 (fun σ' _ _ => hK σ' inferInstance)
          | true =>
            haveI : BV (cbM t) true := ⟨hc⟩
            have e : chkM t false = 112 := by
              have hco : coinB t false = true := cbM_zero hc
              simp [chkM, errsM, he, hem, hco]
            rw [e] at hK
            refine calls_enter Try.func14 rfl _ Try.ntmps14 rfl ?_
            (repeat (first | refine go ?_ | refine goR ?_ | refine goS (fun yc hyc => ?_) | refine goL (fun _ _ => inferInstance) ?_ | with_reducible intro _ | refine goO (by first | omega | (simp only [List.length_cons, List.length_nil]; omega)) ?_ | fail))
            exact backN (σ0 := σ) Try.results14 (fun σ' _ _ => hK σ' inferInstance)
        | true =>
          cases hc : cbM t with
          | false =>
            haveI : BV (cbM t) false := ⟨hc⟩
            have e : chkM t true = 112 := by
              have hco : coinB t true = true := (by unfold coinB; simp [hc])
              simp [chkM, errsM, he, hem, hco]
            rw [e] at hK
            refine calls_enter Try.func14 rfl _ Try.ntmps14 rfl ?_
            (repeat (first | refine go ?_ | refine goR ?_ | refine goS (fun yc hyc => ?_) | refine goL (fun _ _ => inferInstance) ?_ | with_reducible intro _ | refine goO (by first | omega | (simp only [List.length_cons, List.length_nil]; omega)) ?_ | fail))
            exact backN (σ0 := σ) Try.results14 (fun σ' _ _ => hK σ' inferInstance)
          | true =>
            haveI : BV (cbM t) true := ⟨hc⟩
            by_cases hn : 0 < t.nulls.n
            · skip
              haveI : BV (decide (((t.nulls.n : Int) > 0))) true := ⟨decide_eq_true (by omega)⟩
              haveI : BV (decide (((0 : Int) < (t.nulls.n : Int)))) true := ⟨decide_eq_true (by omega)⟩
              have e : chkM t true = 112 := by
                have hco : coinB t true = true := (by unfold coinB; simp [hn])
                simp [chkM, errsM, he, hem, hco]
              rw [e] at hK
              refine calls_enter Try.func14 rfl _ Try.ntmps14 rfl ?_
              (repeat (first | refine go ?_ | refine goR ?_ | refine goS (fun yc hyc => ?_) | refine goL (fun _ _ => inferInstance) ?_ | with_reducible intro _ | refine goO (by first | omega | (simp only [List.length_cons, List.length_nil]; omega)) ?_ | fail))
              exact backN (σ0 := σ) Try.results14 (fun σ' _ _ => hK σ' inferInstance)
            · skip
              haveI : BV (decide (((t.nulls.n : Int) > 0))) false := ⟨decide_eq_false (by omega)⟩
              haveI : BV (decide (((0 : Int) < (t.nulls.n : Int)))) false := ⟨decide_eq_false (by omega)⟩
              have hco : coinB t true = false := by unfold coinB; simp [hc]; omega
              cases hp : ptD t.ins.l with
              | false =>
                haveI : BV (ptD t.ins.l) false := ⟨hp⟩
                have e : chkM t true = 111 := by
                  have hre : repB t = true := (by unfold repB; simp [hp])
                  simp [chkM, errsM, he, hem, hco, hre]
                rw [e] at hK
                refine calls_enter Try.func14 rfl _ Try.ntmps14 rfl ?_
                (repeat (first | refine go ?_ | refine goR ?_ | refine goS (fun yc hyc => ?_) | refine goL (fun _ _ => inferInstance) ?_ | with_reducible intro _ | refine goO (by first | omega | (simp only [List.length_cons, List.length_nil]; omega)) ?_ | fail))
                exact backN (σ0 := σ) Try.results14 (fun σ' _ _ => hK σ' inferInstance)
              | true =>
                haveI : BV (ptD t.ins.l) true := ⟨hp⟩
                cases hd : distK t.nulls.l with
                | false =>
                  haveI : BV (distK t.nulls.l) false := ⟨hd⟩
                  have e : chkM t true = 111 := by
                    have hre : repB t = true := (by unfold repB; simp [hd])
                    simp [chkM, errsM, he, hem, hco, hre]
                  rw [e] at hK
                  refine calls_enter Try.func14 rfl _ Try.ntmps14 rfl ?_
                  (repeat (first | refine go ?_ | refine goR ?_ | refine goS (fun yc hyc => ?_) | refine goL (fun _ _ => inferInstance) ?_ | with_reducible intro _ | refine goO (by first | omega | (simp only [List.length_cons, List.length_nil]; omega)) ?_ | fail))
                  exact backN (σ0 := σ) Try.results14 (fun σ' _ _ => hK σ' inferInstance)
                | true =>
                  haveI : BV (distK t.nulls.l) true := ⟨hd⟩
                  have hre : repB t = false := by unfold repB; simp [hp, hd]
                  cases hs : sumM (valsM t) with
                  | none =>
                    haveI : Is (sumM (valsM t)) none := ⟨hs⟩
                    have e : chkM t true = 20 := by
                      have hmo : moneyB t = true := (by unfold moneyB; simp [hs]; try omega)
                      simp [chkM, errsM, he, hem, hco, hre, hmo]
                    rw [e] at hK
                    refine calls_enter Try.func14 rfl _ Try.ntmps14 rfl ?_
                    (repeat (first | refine go ?_ | refine goR ?_ | refine goS (fun yc hyc => ?_) | refine goL (fun _ _ => inferInstance) ?_ | with_reducible intro _ | refine goO (by first | omega | (simp only [List.length_cons, List.length_nil]; omega)) ?_ | fail))
                    exact backN (σ0 := σ) Try.results14 (fun σ' _ _ => hK σ' inferInstance)
                  | some r =>
                    haveI : Is (sumM (valsM t)) (some r) := ⟨hs⟩
                    by_cases g1 : t.bal.toInt < -2100000000000000
                    · skip
                      haveI : BV (decide (((t.bal.toInt : Int) < -2100000000000000))) true := ⟨decide_eq_true (by omega)⟩
                      haveI : BV (decide (((-2100000000000000 : Int) > (t.bal.toInt : Int)))) true := ⟨decide_eq_true (by omega)⟩
                      have e : chkM t true = 20 := by
                        have hmo : moneyB t = true := (by unfold moneyB; simp [hs]; try omega)
                        simp [chkM, errsM, he, hem, hco, hre, hmo]
                      rw [e] at hK
                      refine calls_enter Try.func14 rfl _ Try.ntmps14 rfl ?_
                      (repeat (first | refine go ?_ | refine goR ?_ | refine goS (fun yc hyc => ?_) | refine goL (fun _ _ => inferInstance) ?_ | with_reducible intro _ | refine goO (by first | omega | (simp only [List.length_cons, List.length_nil]; omega)) ?_ | fail))
                      exact backN (σ0 := σ) Try.results14 (fun σ' _ _ => hK σ' inferInstance)
                    · skip
                      haveI : BV (decide (((t.bal.toInt : Int) < -2100000000000000))) false := ⟨decide_eq_false (by omega)⟩
                      haveI : BV (decide (((-2100000000000000 : Int) > (t.bal.toInt : Int)))) false := ⟨decide_eq_false (by omega)⟩
                      by_cases g2 : 2100000000000000 < t.bal.toInt
                      · skip
                        haveI : BV (decide (((t.bal.toInt : Int) > 2100000000000000))) true := ⟨decide_eq_true (by omega)⟩
                        haveI : BV (decide (((2100000000000000 : Int) < (t.bal.toInt : Int)))) true := ⟨decide_eq_true (by omega)⟩
                        have e : chkM t true = 20 := by
                          have hmo : moneyB t = true := (by unfold moneyB; simp [hs]; try omega)
                          simp [chkM, errsM, he, hem, hco, hre, hmo]
                        rw [e] at hK
                        refine calls_enter Try.func14 rfl _ Try.ntmps14 rfl ?_
                        (repeat (first | refine go ?_ | refine goR ?_ | refine goS (fun yc hyc => ?_) | refine goL (fun _ _ => inferInstance) ?_ | with_reducible intro _ | refine goO (by first | omega | (simp only [List.length_cons, List.length_nil]; omega)) ?_ | fail))
                        exact backN (σ0 := σ) Try.results14 (fun σ' _ _ => hK σ' inferInstance)
                      · skip
                        haveI : BV (decide (((t.bal.toInt : Int) > 2100000000000000))) false := ⟨decide_eq_false (by omega)⟩
                        haveI : BV (decide (((2100000000000000 : Int) < (t.bal.toInt : Int)))) false := ⟨decide_eq_false (by omega)⟩
                        by_cases g3 : 0 < t.bal.toInt
                        · skip
                          haveI : BV (decide (((t.bal.toInt : Int) > 0))) true := ⟨decide_eq_true (by omega)⟩
                          haveI : BV (decide (((0 : Int) < (t.bal.toInt : Int)))) true := ⟨decide_eq_true (by omega)⟩
                          by_cases g5 : t.nulls.n = 0
                          · skip
                            haveI : BV (decide (((t.nulls.n : Int) = 0))) true := ⟨decide_eq_true (by omega)⟩
                            have e : chkM t true = 20 := by
                              have hmo : moneyB t = true := (by unfold moneyB; simp [hs]; try omega)
                              simp [chkM, errsM, he, hem, hco, hre, hmo]
                            rw [e] at hK
                            refine calls_enter Try.func14 rfl _ Try.ntmps14 rfl ?_
                            (repeat (first | refine go ?_ | refine goR ?_ | refine goS (fun yc hyc => ?_) | refine goL (fun _ _ => inferInstance) ?_ | with_reducible intro _ | refine goO (by first | omega | (simp only [List.length_cons, List.length_nil]; omega)) ?_ | fail))
                            exact backN (σ0 := σ) Try.results14 (fun σ' _ _ => hK σ' inferInstance)
                          · skip
                            haveI : BV (decide (((t.nulls.n : Int) = 0))) false := ⟨decide_eq_false (by omega)⟩
                            haveI : BV (decide (((t.bal.toInt : Int) < 0))) false := ⟨decide_eq_false (by omega)⟩
                            haveI : BV (decide (((0 : Int) > (t.bal.toInt : Int)))) false := ⟨decide_eq_false (by omega)⟩
                            have e : chkM t true = 0 := by
                              have hmo : moneyB t = false := (by unfold moneyB; simp [hs]; try omega)
                              simp [chkM, errsM, he, hem, hco, hre, hmo]
                            rw [e] at hK
                            refine calls_enter Try.func14 rfl _ Try.ntmps14 rfl ?_
                            (repeat (first | refine go ?_ | refine goR ?_ | refine goS (fun yc hyc => ?_) | refine goL (fun _ _ => inferInstance) ?_ | with_reducible intro _ | refine goO (by first | omega | (simp only [List.length_cons, List.length_nil]; omega)) ?_ | fail))
                            exact backN (σ0 := σ) Try.results14 (fun σ' _ _ => hK σ' inferInstance)
                        · skip
                          haveI : BV (decide (((t.bal.toInt : Int) > 0))) false := ⟨decide_eq_false (by omega)⟩
                          haveI : BV (decide (((0 : Int) < (t.bal.toInt : Int)))) false := ⟨decide_eq_false (by omega)⟩
                          by_cases g4 : t.bal.toInt < 0
                          · skip
                            haveI : BV (decide (((t.bal.toInt : Int) < 0))) true := ⟨decide_eq_true (by omega)⟩
                            haveI : BV (decide (((0 : Int) > (t.bal.toInt : Int)))) true := ⟨decide_eq_true (by omega)⟩
                            by_cases g5 : t.notes.n = 0
                            · skip
                              haveI : BV (decide (((t.notes.n : Int) = 0))) true := ⟨decide_eq_true (by omega)⟩
                              have e : chkM t true = 20 := by
                                have hmo : moneyB t = true := (by unfold moneyB; simp [hs]; try omega)
                                simp [chkM, errsM, he, hem, hco, hre, hmo]
                              rw [e] at hK
                              refine calls_enter Try.func14 rfl _ Try.ntmps14 rfl ?_
                              (repeat (first | refine go ?_ | refine goR ?_ | refine goS (fun yc hyc => ?_) | refine goL (fun _ _ => inferInstance) ?_ | with_reducible intro _ | refine goO (by first | omega | (simp only [List.length_cons, List.length_nil]; omega)) ?_ | fail))
                              exact backN (σ0 := σ) Try.results14 (fun σ' _ _ => hK σ' inferInstance)
                            · skip
                              haveI : BV (decide (((t.notes.n : Int) = 0))) false := ⟨decide_eq_false (by omega)⟩
                              have e : chkM t true = 0 := by
                                have hmo : moneyB t = false := (by unfold moneyB; simp [hs]; try omega)
                                simp [chkM, errsM, he, hem, hco, hre, hmo]
                              rw [e] at hK
                              refine calls_enter Try.func14 rfl _ Try.ntmps14 rfl ?_
                              (repeat (first | refine go ?_ | refine goR ?_ | refine goS (fun yc hyc => ?_) | refine goL (fun _ _ => inferInstance) ?_ | with_reducible intro _ | refine goO (by first | omega | (simp only [List.length_cons, List.length_nil]; omega)) ?_ | fail))
                              exact backN (σ0 := σ) Try.results14 (fun σ' _ _ => hK σ' inferInstance)
                          · skip
                            haveI : BV (decide (((t.bal.toInt : Int) < 0))) false := ⟨decide_eq_false (by omega)⟩
                            haveI : BV (decide (((0 : Int) > (t.bal.toInt : Int)))) false := ⟨decide_eq_false (by omega)⟩
                            have e : chkM t true = 0 := by
                              have hmo : moneyB t = false := (by unfold moneyB; simp [hs]; try omega)
                              simp [chkM, errsM, he, hem, hco, hre, hmo]
                            rw [e] at hK
                            refine calls_enter Try.func14 rfl _ Try.ntmps14 rfl ?_
                            (repeat (first | refine go ?_ | refine goR ?_ | refine goS (fun yc hyc => ?_) | refine goL (fun _ _ => inferInstance) ?_ | with_reducible intro _ | refine goO (by first | omega | (simp only [List.length_cons, List.length_nil]; omega)) ?_ | fail))
                            exact backN (σ0 := σ) Try.results14 (fun σ' _ _ => hK σ' inferInstance)
  · skip
    haveI : BV (decide (encE t = 0)) false := ⟨decide_eq_false he⟩
    have e : chkM t base = encE t := by
      unfold chkM; rw [if_neg he]
    rw [e] at hK
    refine calls_enter Try.func14 rfl _ Try.ntmps14 rfl ?_
    (repeat (first | refine go ?_ | refine goR ?_ | refine goS (fun yc hyc => ?_) | refine goL (fun _ _ => inferInstance) ?_ | with_reducible intro _ | refine goO (by first | omega | (simp only [List.length_cons, List.length_nil]; omega)) ?_ | fail))
    exact backN (σ0 := σ) Try.results14 (fun σ' _ _ => hK σ' inferInstance)⟩
end
end Go.Proofs.Ythdhnkgnbdociaa
