/- Money: sums, and what is told of them; the reference's; by contract. No condition. -/
import Derived.Test.YthdhnkgnbdociaaDf
import Derived.Test.YthdhnkgnbdociaaEi
set_option linter.all false
set_option maxHeartbeats 40000000
set_option synthInstance.maxHeartbeats 2000000
set_option synthInstance.maxSize 100000
namespace Go.Proofs.Ythdhnkgnbdociaa
open Go Go.RowKit
def mayB (a : Int) : Bool := decide (0 ≤ a) && decide (a ≤ 2100000000000000)
theorem mayB_iff {a : Int} : mayB a = true ↔ 0 ≤ a ∧ a ≤ 2100000000000000 := by simp [mayB]
theorem mayB_not {a : Int} : mayB a = false ↔ ¬ (0 ≤ a ∧ a ≤ 2100000000000000) := by
  rw [← mayB_iff]; simp
def addM (acc : Option Int) (x : Int) : Option Int := acc.bind fun s => if mayB x && mayB (s + x) then some (s + x) else none
def sumM (xs : List Int64) : Option Int := xs.foldl (fun a x => addM a x.toInt) (some 0)
theorem foldl_none : ∀ (l : List Int64), l.foldl (fun a x => addM a x.toInt) none = none
  | [] => rfl
  | x :: l => by rw [List.foldl_cons]; exact foldl_none l
theorem sumM_app (l m : List Int64) : sumM (l ++ m) = m.foldl (fun a x => addM a x.toInt) (sumM l) := by unfold sumM; rw [List.foldl_append]
theorem sumM_take {xs : List Int64} {i : Nat} (h : i < xs.length) : sumM (xs.take (i + 1)) = addM (sumM (xs.take i)) xs[i]!.toInt := by
  rw [take_snoc h, sumM_app]; rfl
theorem sumM_none {xs : List Int64} {i : Nat} (h : sumM (xs.take i) = none) : sumM xs = none := by
  rw [← List.take_append_drop i xs, sumM_app, h, foldl_none]
theorem sumM_range {xs : List Int64} : ∀ {i : Nat} {s : Int}, i ≤ xs.length → sumM (xs.take i) = some s → 0 ≤ s ∧ s ≤ 2100000000000000
  | 0, s, _, h => by
    rw [List.take_zero] at h
    have : (some (0 : Int)) = some s := h
    injection this with this; omega
  | i + 1, s, hi, h => by
    rw [sumM_take (by omega)] at h
    cases hp : sumM (xs.take i) with
    | none => rw [hp] at h; cases h
    | some s0 =>
      rw [hp] at h
      simp only [addM, Option.bind_some] at h
      split at h
      · rename_i hc
        rw [Bool.and_eq_true] at hc
        injection h with h; subst h
        exact mayB_iff.1 hc.2
      · cases h
abbrev wrongE : PanicEntry := { v := .iface 102 (.agg #[]), recovered := false }
def sumT (σ : St) (o : Option Int) : Tr := fun K E =>
  match o with
  | some s => ∀ σ', Nx σ σ' .no → K (.int .i64 s) σ'
  | none => ∀ σ', Nx σ σ' .no → E [wrongE] σ'
instance {σ : St} {s : Int} {K : KV} {E : KE} : Nxt (sumT σ (some s) K E) (∀ σ', Nx σ σ' .no → K (.int .i64 s) σ') := ⟨id⟩
instance {σ : St} {K : KV} {E : KE} : Nxt (sumT σ none K E) (∀ σ', Nx σ σ' .no → E [wrongE] σ') := ⟨id⟩
def sureT (σ : St) (a : Int) (b : Bool) : Tr := fun K E =>
  match b with
  | true => ∀ σ', Nx σ σ' .no → K (.int .i64 a) σ'
  | false => ∀ σ', Nx σ σ' .no → E [wrongE] σ'
instance {σ : St} {a : Int} {K : KV} {E : KE} : Nxt (sureT σ a true K E) (∀ σ', Nx σ σ' .no → K (.int .i64 a) σ') := ⟨id⟩
instance {σ : St} {a : Int} {K : KV} {E : KE} : Nxt (sureT σ a false K E) (∀ σ', Nx σ σ' .no → E [wrongE] σ') := ⟨id⟩
def toldT (σ : St) (o : Option Int) : Tr := fun K _ =>
  match o with
  | some s => ∀ σ', Nx σ σ' .no → K (.tuple #[.int .i64 s, .int .i64 0]) σ'
  | none => ∀ σ', Nx σ σ' .no → K (.tuple #[.int .i64 0, .int .i64 20]) σ'
instance {σ : St} {s : Int} {K : KV} {E : KE} : Nxt (toldT σ (some s) K E) (∀ σ', Nx σ σ' .no → K (.tuple #[.int .i64 s, .int .i64 0]) σ') := ⟨id⟩
instance {σ : St} {K : KV} {E : KE} : Nxt (toldT σ none K E) (∀ σ', Nx σ σ' .no → K (.tuple #[.int .i64 0, .int .i64 20]) σ') := ⟨id⟩
section
variable {σ : St} {A : Option Addr} {n c b : Nat} {xs : List Int64} {a x : Int} {o : Option Int}
instance tz_wrong : TZ Try.prog 102 #[] := TZ.mk_ (by kernel_rfl)
instance csz_none : CSz #[] 0 := ⟨rfl, by simp⟩
instance putv_none : PutV #[] 0 #[] #[] := ⟨by simp, by simp [putCells]⟩
instance build_wrong {f : Fr} {ty : TypeId} : StepV Try.prog (.build 102 #[]) ty f σ (.agg #[]) := ⟨by
  obtain ⟨i, z, hi, hz, hc⟩ := tz_wrong.h
  have u := (inferInstance : U Try.prog 102 _).h
  have : (Instr.build 102 #[]).run Try.prog σ.w = .ok (.agg #[]) σ.w := by
    simp [Instr.build, zeroValue, typeInfo, hi, hz, hc, run_underlying u, Instr.fill]
  simp [execOp, this]⟩
instance rule_May {bb : Bool} [q : BV (mayB a) bb] : CallRule Try.prog 76 [.int .i64 a] σ (fun K _ => (-9223372036854775808 ≤ a ∧ a ≤ 9223372036854775807) ∧ ∀ σ', Nx σ σ' .no → K (.bool bb) σ') := ⟨fun K E hK => by
  obtain ⟨ha, hK⟩ := hK
  have hq := q.eq; subst hq
  haveI : BV (decide (IntKind.u64.wrap a ≤ 2100000000000000)) (mayB a) := ⟨by
    rw [IntKind.wrap_u64]
    unfold mayB
    rw [Bool.eq_iff_iff, Bool.and_eq_true]
    simp only [decide_eq_true_eq]
    omega⟩
  refine calls_enter Try.func76 rfl _ Try.ntmps76 rfl ?_
  (repeat (first | refine go ?_ | refine goR ?_ | refine goS (fun yc hyc => ?_) | refine goL (fun _ _ => inferInstance) ?_ | with_reducible intro _ | refine goO (by first | omega | (simp only [List.length_cons, List.length_nil]; omega)) ?_ | fail))
  exact backN (σ0 := σ) Try.results76 (fun σ' _ _ => hK σ' inferInstance)⟩
instance rule_sure {bb : Bool} [q : BV (mayB a) bb] : CallRule Try.prog 73 [.int .i64 a] σ (fun K E => (-9223372036854775808 ≤ a ∧ a ≤ 9223372036854775807) ∧ sureT σ a bb K E) := ⟨fun K E hK => by
  obtain ⟨ha, hK⟩ := hK
  have hq := q.eq; subst hq
  cases hm : mayB a with
  | true =>
    haveI : BV (mayB a) true := ⟨hm⟩
    rw [hm] at hK
    have hK : ∀ σ', Nx σ σ' .no → K (.int .i64 a) σ' := hK
    refine calls_enter Try.func73 rfl _ Try.ntmps73 rfl ?_
    (repeat (first | refine go ?_ | refine goR ?_ | refine goS (fun yc hyc => ?_) | refine goL (fun _ _ => inferInstance) ?_ | with_reducible intro _ | refine goO (by first | omega | (simp only [List.length_cons, List.length_nil]; omega)) ?_ | fail))
    exact backN (σ0 := σ) Try.results73 (fun σ' _ _ => hK σ' inferInstance)
  | false =>
    haveI : BV (mayB a) false := ⟨hm⟩
    rw [hm] at hK
    have hK : ∀ σ', Nx σ σ' .no → E [wrongE] σ' := hK
    refine calls_enter Try.func73 rfl _ Try.ntmps73 rfl ?_
    (repeat (first | refine go ?_ | refine goR ?_ | refine goS (fun yc hyc => ?_) | refine goL (fun _ _ => inferInstance) ?_ | with_reducible intro _ | refine goO (by first | omega | (simp only [List.length_cons, List.length_nil]; omega)) ?_ | fail))
    exact resP (hK _ (Sub.nx inferInstance))⟩
theorem i64_rng (x : Int64) : -9223372036854775808 ≤ x.toInt ∧ x.toInt ≤ 9223372036854775807 := by
  have h1 := x.le_toInt; have h2 := x.toInt_lt
  omega
instance rule_added [h : SL σ A n c i64E xs] {o : Option Int} [q : Is (sumM xs) o] : CallRule Try.prog 64 [.slice A n c] σ (fun K E => sumT σ o K E) := ⟨fun K E hK => by
  have hq := q.eq; subst hq
  have hl := h.len
  have hmx := h.max
  refine calls_enter Try.func64 rfl _ Try.ntmps64 rfl ?_
  (repeat (first | refine go ?_ | refine goR ?_ | refine goS (fun yc hyc => ?_) | refine goL (fun _ _ => inferInstance) ?_ | with_reducible intro _ | refine goO (by first | omega | (simp only [List.length_cons, List.length_nil]; omega)) ?_ | fail))
  refine WC.loopW 261928 .no (fun (i : Nat) f s => At f 8 (.int .i64 (i : Int)) ∧ i ≤ n ∧ ∃ r : Int, At f 3 (.int .i64 r) ∧ sumM (xs.take i) = some r) (fun i => n - i) 0
    ⟨At.to (.int .i64 0) rfl, Nat.zero_le _, 0, inferInstance, by rw [List.take_zero]; rfl⟩ ?_
  rintro i f s ha hs ⟨a8, hi, r, a3, hr⟩
  have hrr := sumM_range (by omega) hr
  by_cases hlt : i < n
  · haveI : BV (decide ((i : Int) < (n : Int))) true := ⟨by simpa using hlt⟩
    haveI : IdxLt i n := ⟨hlt⟩
    haveI : Fits .i64 ((i : Int) + 1) := Fits.i64 (by omega) (by omega)
    have hrg := i64_rng xs[i]!
    have hst := sumM_take (xs := xs) (i := i) (by omega)
    rw [hr] at hst
    simp only [addM, Option.bind_some] at hst
    cases h1 : mayB xs[i]!.toInt with
    | false =>
      haveI : BV (mayB xs[i]!.toInt) false := ⟨h1⟩
      rw [h1] at hst
      have hno : sumM xs = none := sumM_none (i := i + 1) hst
      rw [hno] at hK
      have hK : ∀ σ', Nx σ σ' .no → E [wrongE] σ' := hK
      (repeat (first | refine go ?_ | refine goR ?_ | refine goS (fun yc hyc => ?_) | refine goL (fun _ _ => inferInstance) ?_ | with_reducible intro _ | refine goO (by first | omega | (simp only [List.length_cons, List.length_nil]; omega)) ?_ | fail))
      exact resP (hK _ (Sub.nx inferInstance))
    | true =>
      haveI : BV (mayB xs[i]!.toInt) true := ⟨h1⟩
      have hb := mayB_iff.1 h1
      haveI : Fits .i64 (r + xs[i]!.toInt) := Fits.i64 (by omega) (by omega)
      cases h2 : mayB (r + xs[i]!.toInt) with
      | false =>
        haveI : BV (mayB (r + xs[i]!.toInt)) false := ⟨h2⟩
        rw [h1, h2] at hst
        have hno : sumM xs = none := sumM_none (i := i + 1) hst
        rw [hno] at hK
        have hK : ∀ σ', Nx σ σ' .no → E [wrongE] σ' := hK
        (repeat (first | refine go ?_ | refine goR ?_ | refine goS (fun yc hyc => ?_) | refine goL (fun _ _ => inferInstance) ?_ | with_reducible intro _ | refine goO (by first | omega | (simp only [List.length_cons, List.length_nil]; omega)) ?_ | fail))
        exact resP (hK _ (Sub.nx inferInstance))
      | true =>
        haveI : BV (mayB (r + xs[i]!.toInt)) true := ⟨h2⟩
        rw [h1, h2] at hst
        (repeat (first | refine go ?_ | refine goR ?_ | refine goS (fun yc hyc => ?_) | refine goL (fun _ _ => inferInstance) ?_ | with_reducible intro _ | refine goO (by first | omega | (simp only [List.length_cons, List.length_nil]; omega)) ?_ | fail))
        exact loop_w (i + 1) ⟨At.to (.int .i64 ((i : Int) + 1)) (by simp), hlt, _, inferInstance, hst⟩ (by omega)
  · haveI : BV (decide ((i : Int) < (n : Int))) false := ⟨by simpa using hlt⟩
    rw [take_all (by omega)] at hr
    rw [hr] at hK
    have hK : ∀ σ', Nx σ σ' .no → K (.int .i64 r) σ' := hK
    (repeat (first | refine go ?_ | refine goR ?_ | refine goS (fun yc hyc => ?_) | refine goL (fun _ _ => inferInstance) ?_ | with_reducible intro _ | refine goO (by first | omega | (simp only [List.length_cons, List.length_nil]; omega)) ?_ | fail))
    exact backN (σ0 := σ) Try.results64 (fun σ' _ _ => hK σ' inferInstance)⟩
/-- a function value that sums, and what it tells -/
class TellF (P : Program) (σ0 : St) (fv : Value) (o : outParam (Option Int)) : Prop where
  rule : ∀ s, Nx σ0 s .no → ValRule P fv [] s (fun K E => sumT s o K E)
theorem told_ret {b2 b3 : Nat} : CallsD Try.prog 72 [.pointer (some ⟨b2, 0, none⟩), .pointer (some ⟨b3, 0, none⟩)].toArray .returning σ.w (fun e u2 w' => u2 = .returning ∧ ResEnd (fun v σ' => Nx σ σ' .no) (fun _ _ => False) e w') := by
  refine callsD_recover (args := [.pointer (some ⟨b2, 0, none⟩), .pointer (some ⟨b3, 0, none⟩)]) Try.func72 rfl _ Try.ntmps72 rfl rfl ?_
  (repeat (first | refine go ?_ | refine goR ?_ | refine goS (fun yc hyc => ?_) | refine goL (fun _ _ => inferInstance) ?_ | with_reducible intro _ | refine goO (by first | omega | (simp only [List.length_cons, List.length_nil]; omega)) ?_ | fail))
  exact resN Try.results72 (Sub.nx inferInstance)
theorem told_wrong {b2 b3 : Nat} {x y : Int} [o2 : Own σ b2 2 #[.int .i64 x]] [o3 : Own σ b3 32 #[.int .i64 y]] : CallsD Try.prog 72 [.pointer (some ⟨b2, 0, none⟩), .pointer (some ⟨b3, 0, none⟩)].toArray (.panicking [wrongE]) σ.w
    (fun e u2 w' => u2 = .panicking [{ v := .iface 102 (.agg #[]), recovered := true }] ∧ ResEnd (fun v σ' => Nx σ σ' (.un (.one b2 2) (.one b3 32)) ∧ Own σ' b2 2 #[.int .i64 0] ∧ Own σ' b3 32 #[.int .i64 20]) (fun _ _ => False) e w') := by
  refine callsD_recover (args := [.pointer (some ⟨b2, 0, none⟩), .pointer (some ⟨b3, 0, none⟩)]) Try.func72 rfl _ Try.ntmps72 rfl rfl ?_
  (repeat (first | refine go ?_ | refine goR ?_ | refine goS (fun yc hyc => ?_) | refine goL (fun _ _ => inferInstance) ?_ | with_reducible intro _ | refine goO (by first | omega | (simp only [List.length_cons, List.length_nil]; omega)) ?_ | fail))
  exact resN Try.results72 ⟨Sx.nx inferInstance, inferInstance, inferInstance⟩
instance rule_told {fv : Value} {o : Option Int} [tf : TellF Try.prog σ fv o] : CallRule Try.prog 62 [fv] σ (fun K E => toldT σ o K E) := ⟨fun K E hK => by
  cases ho : o with
  | some r =>
    subst ho
    have hK : ∀ σ', Nx σ σ' .no → K (.tuple #[.int .i64 r, .int .i64 0]) σ' := hK
    haveI : ∀ (s : St) [Sx σ .no s], ValRule Try.prog fv [] s (fun K E => sumT s (some r) K E) := fun s hs => tf.rule s hs.nx
    refine calls_enterD Try.func62 rfl _ Try.ntmps62 rfl ?_
    (repeat (first | refine go ?_ | refine goR ?_ | refine goS (fun yc hyc => ?_) | refine goL (fun _ _ => inferInstance) ?_ | with_reducible intro _ | refine goO (by first | omega | (simp only [List.length_cons, List.length_nil]; omega)) ?_ | fail))
    refine leaves_one (by nofun) Try.results62 told_ret rfl (fun _ _ h => h) (fun v σ' hn => ?_)
    haveI := hn
    exact ⟨_, _, inferInstance, inferInstance, σ', rfl, hK σ' (Sub.nx inferInstance)⟩
  | none =>
    subst ho
    have hK : ∀ σ', Nx σ σ' .no → K (.tuple #[.int .i64 0, .int .i64 20]) σ' := hK
    haveI : ∀ (s : St) [Sx σ .no s], ValRule Try.prog fv [] s (fun K E => sumT s none K E) := fun s hs => tf.rule s hs.nx
    refine calls_enterD Try.func62 rfl _ Try.ntmps62 rfl ?_
    (repeat (first | refine go ?_ | refine goR ?_ | refine goS (fun yc hyc => ?_) | refine goL (fun _ _ => inferInstance) ?_ | with_reducible intro _ | refine goO (by first | omega | (simp only [List.length_cons, List.length_nil]; omega)) ?_ | fail))
    refine leaves_one (by nofun) Try.results62 told_wrong rfl (fun _ _ h => h) (fun v σ' hn => ?_)
    obtain ⟨hn, h2, h3⟩ := hn
    haveI := hn; haveI := h2; haveI := h3
    exact ⟨_, _, inferInstance, inferInstance, σ', rfl, hK σ' (Sub.nx inferInstance)⟩⟩
instance rule_Sum1 [bx : Own σ b 43 #[.slice A n c]] [h : SL σ A n c i64E xs] {o : Option Int} [q : Is (sumM xs) o] : CallRule Try.prog 63 [.pointer (some ⟨b, 0, none⟩)] σ (fun K E => sumT σ o K E) := ⟨fun K E hK => by
  cases ho : o with
  | some r =>
    subst ho
    have hK : ∀ σ', Nx σ σ' .no → K (.int .i64 r) σ' := hK
    refine calls_enter Try.func63 rfl _ Try.ntmps63 rfl ?_
    (repeat (first | refine go ?_ | refine goR ?_ | refine goS (fun yc hyc => ?_) | refine goL (fun _ _ => inferInstance) ?_ | with_reducible intro _ | refine goO (by first | omega | (simp only [List.length_cons, List.length_nil]; omega)) ?_ | fail))
    exact backN (σ0 := σ) Try.results63 (fun σ' _ _ => hK σ' inferInstance)
  | none =>
    subst ho
    have hK : ∀ σ', Nx σ σ' .no → E [wrongE] σ' := hK
    refine calls_enter Try.func63 rfl _ Try.ntmps63 rfl ?_
    (repeat (first | refine go ?_ | refine goR ?_ | refine goS (fun yc hyc => ?_) | refine goL (fun _ _ => inferInstance) ?_ | with_reducible intro _ | refine goO (by first | omega | (simp only [List.length_cons, List.length_nil]; omega)) ?_ | fail))
    exact resP (hK _ (Sub.nx inferInstance))⟩
instance tellF_sum [bx : Own σ b 43 #[.slice A n c]] [h : SL σ A n c i64E xs] {o : Option Int} [q : Is (sumM xs) o] : TellF Try.prog σ (.func (.func 63) #[] #[.pointer (some ⟨b, 0, none⟩)]) o := ⟨fun s hs => by
  haveI := hs
  exact inferInstance⟩
instance rule_Sum [h : SL σ A n c i64E xs] {o : Option Int} [q : Is (sumM xs) o] : CallRule Try.prog 49 [.slice A n c] σ (fun K E => toldT σ o K E) := ⟨fun K E hK => by
  cases ho : o with
  | some r =>
    subst ho
    have hK : ∀ σ', Nx σ σ' .no → K (.tuple #[.int .i64 r, .int .i64 0]) σ' := hK
    refine calls_enter Try.func49 rfl _ Try.ntmps49 rfl ?_
    (repeat (first | refine go ?_ | refine goR ?_ | refine goS (fun yc hyc => ?_) | refine goL (fun _ _ => inferInstance) ?_ | with_reducible intro _ | refine goO (by first | omega | (simp only [List.length_cons, List.length_nil]; omega)) ?_ | fail))
    exact backN (σ0 := σ) Try.results49 (fun σ' _ _ => hK σ' inferInstance)
  | none =>
    subst ho
    have hK : ∀ σ', Nx σ σ' .no → K (.tuple #[.int .i64 0, .int .i64 20]) σ' := hK
    refine calls_enter Try.func49 rfl _ Try.ntmps49 rfl ?_
    (repeat (first | refine go ?_ | refine goR ?_ | refine goS (fun yc hyc => ?_) | refine goL (fun _ _ => inferInstance) ?_ | with_reducible intro _ | refine goO (by first | omega | (simp only [List.length_cons, List.length_nil]; omega)) ?_ | fail))
    exact backN (σ0 := σ) Try.results49 (fun σ' _ _ => hK σ' inferInstance)⟩
instance rule_ref_May {bb : Bool} [q : BV (mayB a) bb] : CallRule Try.prog 65 [.int .i64 a] σ (fun K _ => ∀ σ', Nx σ σ' .no → K (.bool bb) σ') := ⟨fun K E hK => by
  have hq := q.eq; subst hq
  by_cases h1 : 0 ≤ a
  · haveI : BV (decide (0 ≤ a)) true := ⟨by simpa using h1⟩
    haveI : BV (decide (a ≥ 0)) true := ⟨by simpa using h1⟩
    have e : mayB a = decide (a ≤ 2100000000000000) := by unfold mayB; simp [h1]
    rw [e] at hK
    refine calls_enter Try.func65 rfl _ Try.ntmps65 rfl ?_
    (repeat (first | refine go ?_ | refine goR ?_ | refine goS (fun yc hyc => ?_) | refine goL (fun _ _ => inferInstance) ?_ | with_reducible intro _ | refine goO (by first | omega | (simp only [List.length_cons, List.length_nil]; omega)) ?_ | fail))
    exact backN (σ0 := σ) Try.results65 (fun σ' _ _ => hK σ' inferInstance)
  · haveI : BV (decide (0 ≤ a)) false := ⟨by simpa using h1⟩
    haveI : BV (decide (a ≥ 0)) false := ⟨by simpa using h1⟩
    have e : mayB a = false := by unfold mayB; simp [h1]
    rw [e] at hK
    refine calls_enter Try.func65 rfl _ Try.ntmps65 rfl ?_
    (repeat (first | refine go ?_ | refine goR ?_ | refine goS (fun yc hyc => ?_) | refine goL (fun _ _ => inferInstance) ?_ | with_reducible intro _ | refine goO (by first | omega | (simp only [List.length_cons, List.length_nil]; omega)) ?_ | fail))
    exact backN (σ0 := σ) Try.results65 (fun σ' _ _ => hK σ' inferInstance)⟩
/-- two amounts, added -/
def addR (a b : Int) : Option Int := if mayB a && mayB b && decide (a + b ≤ 2100000000000000) then some (a + b) else none
theorem addR_addM {r : Int} (h : 0 ≤ r ∧ r ≤ 2100000000000000) (x : Int) : addM (some r) x = addR r x := by
  have h1 : mayB r = true := mayB_iff.2 h
  simp only [addM, addR, Option.bind_some, h1, Bool.true_and]
  cases hx : mayB x with
  | false => rfl
  | true =>
    have := mayB_iff.1 hx
    have e : mayB (r + x) = decide (r + x ≤ 2100000000000000) := by
      rw [Bool.eq_iff_iff, mayB_iff, decide_eq_true_eq]; omega
    rw [e]
instance rule_ref_Add {x y : Int} {o : Option Int} [q : Is (addR x y) o] : CallRule Try.prog 54 [.int .i64 x, .int .i64 y] σ (fun K E => toldT σ o K E) := ⟨fun K E hK => by
  have hq := q.eq; subst hq
  have hnone : addR x y = none → ∀ σ', Nx σ σ' .no → K (.tuple #[.int .i64 0, .int .i64 20]) σ' := fun e => by rw [e] at hK; exact hK
  cases h1 : mayB x with
  | false =>
    haveI : BV (mayB x) false := ⟨h1⟩
    have hK := hnone (by simp [addR, h1])
    refine calls_enter Try.func54 rfl _ Try.ntmps54 rfl ?_
    (repeat (first | refine go ?_ | refine goR ?_ | refine goS (fun yc hyc => ?_) | refine goL (fun _ _ => inferInstance) ?_ | with_reducible intro _ | refine goO (by first | omega | (simp only [List.length_cons, List.length_nil]; omega)) ?_ | fail))
    exact backN (σ0 := σ) Try.results54 (fun σ' _ _ => hK σ' inferInstance)
  | true =>
    haveI : BV (mayB x) true := ⟨h1⟩
    cases h2 : mayB y with
    | false =>
      haveI : BV (mayB y) false := ⟨h2⟩
      have hK := hnone (by simp [addR, h2])
      refine calls_enter Try.func54 rfl _ Try.ntmps54 rfl ?_
      (repeat (first | refine go ?_ | refine goR ?_ | refine goS (fun yc hyc => ?_) | refine goL (fun _ _ => inferInstance) ?_ | with_reducible intro _ | refine goO (by first | omega | (simp only [List.length_cons, List.length_nil]; omega)) ?_ | fail))
      exact backN (σ0 := σ) Try.results54 (fun σ' _ _ => hK σ' inferInstance)
    | true =>
      haveI : BV (mayB y) true := ⟨h2⟩
      have g1 := mayB_iff.1 h1
      have g2 := mayB_iff.1 h2
      haveI : Fits .i64 (x + y) := Fits.i64 (by omega) (by omega)
      by_cases h3 : x + y ≤ 2100000000000000
      · haveI : BV (decide (x + y > 2100000000000000)) false := ⟨by simp; omega⟩
        haveI : BV (decide (2100000000000000 < x + y)) false := ⟨by simp; omega⟩
        have e : addR x y = some (x + y) := by simp [addR, h1, h2, h3]
        rw [e] at hK
        have hK : ∀ σ', Nx σ σ' .no → K (.tuple #[.int .i64 (x + y), .int .i64 0]) σ' := hK
        refine calls_enter Try.func54 rfl _ Try.ntmps54 rfl ?_
        (repeat (first | refine go ?_ | refine goR ?_ | refine goS (fun yc hyc => ?_) | refine goL (fun _ _ => inferInstance) ?_ | with_reducible intro _ | refine goO (by first | omega | (simp only [List.length_cons, List.length_nil]; omega)) ?_ | fail))
        exact backN (σ0 := σ) Try.results54 (fun σ' _ _ => hK σ' inferInstance)
      · haveI : BV (decide (x + y > 2100000000000000)) true := ⟨by simp; omega⟩
        haveI : BV (decide (2100000000000000 < x + y)) true := ⟨by simp; omega⟩
        have hK := hnone (by simp [addR, h3])
        refine calls_enter Try.func54 rfl _ Try.ntmps54 rfl ?_
        (repeat (first | refine go ?_ | refine goR ?_ | refine goS (fun yc hyc => ?_) | refine goL (fun _ _ => inferInstance) ?_ | with_reducible intro _ | refine goO (by first | omega | (simp only [List.length_cons, List.length_nil]; omega)) ?_ | fail))
        exact backN (σ0 := σ) Try.results54 (fun σ' _ _ => hK σ' inferInstance)⟩
instance rule_ref_Sum [h : SL σ A n c i64E xs] {o : Option Int} [q : Is (sumM xs) o] : CallRule Try.prog 25 [.slice A n c] σ (fun K E => toldT σ o K E) := ⟨fun K E hK => by
  have hq := q.eq; subst hq
  have hl := h.len
  have hmx := h.max
  refine calls_enter Try.func25 rfl _ Try.ntmps25 rfl ?_
  (repeat (first | refine go ?_ | refine goR ?_ | refine goS (fun yc hyc => ?_) | refine goL (fun _ _ => inferInstance) ?_ | with_reducible intro _ | refine goO (by first | omega | (simp only [List.length_cons, List.length_nil]; omega)) ?_ | fail))
  refine WC.loopW 134217724 .no (fun (i : Nat) f s => At f 5 (.int .i64 (i : Int)) ∧ i ≤ n ∧ ∃ r : Int, At f 4 (.int .i64 r) ∧ sumM (xs.take i) = some r) (fun i => n - i) 0
    ⟨At.to (.int .i64 0) rfl, Nat.zero_le _, 0, inferInstance, by rw [List.take_zero]; rfl⟩ ?_
  rintro i f s ha hs ⟨a8, hi, r, a3, hr⟩
  have hrr := sumM_range (by omega) hr
  by_cases hlt : i < n
  · haveI : BV (decide ((i : Int) < (n : Int))) true := ⟨by simpa using hlt⟩
    haveI : IdxLt i n := ⟨hlt⟩
    haveI : Fits .i64 ((i : Int) + 1) := Fits.i64 (by omega) (by omega)
    have hst := sumM_take (xs := xs) (i := i) (by omega)
    rw [hr, addR_addM hrr] at hst
    cases h1 : addR r xs[i]!.toInt with
    | none =>
      haveI : Is (addR r xs[i]!.toInt) none := ⟨h1⟩
      rw [h1] at hst
      have hno : sumM xs = none := sumM_none (i := i + 1) hst
      rw [hno] at hK
      have hK : ∀ σ', Nx σ σ' .no → K (.tuple #[.int .i64 0, .int .i64 20]) σ' := hK
      (repeat (first | refine go ?_ | refine goR ?_ | refine goS (fun yc hyc => ?_) | refine goL (fun _ _ => inferInstance) ?_ | with_reducible intro _ | refine goO (by first | omega | (simp only [List.length_cons, List.length_nil]; omega)) ?_ | fail))
      exact backN (σ0 := σ) Try.results25 (fun σ' _ _ => hK σ' inferInstance)
    | some r2 =>
      haveI : Is (addR r xs[i]!.toInt) (some r2) := ⟨h1⟩
      rw [h1] at hst
      (repeat (first | refine go ?_ | refine goR ?_ | refine goS (fun yc hyc => ?_) | refine goL (fun _ _ => inferInstance) ?_ | with_reducible intro _ | refine goO (by first | omega | (simp only [List.length_cons, List.length_nil]; omega)) ?_ | fail))
      exact loop_w (i + 1) ⟨At.to (.int .i64 ((i : Int) + 1)) (by simp), hlt, _, inferInstance, hst⟩ (by omega)
  · haveI : BV (decide ((i : Int) < (n : Int))) false := ⟨by simpa using hlt⟩
    rw [take_all (by omega)] at hr
    rw [hr] at hK
    have hK : ∀ σ', Nx σ σ' .no → K (.tuple #[.int .i64 r, .int .i64 0]) σ' := hK
    (repeat (first | refine go ?_ | refine goR ?_ | refine goS (fun yc hyc => ?_) | refine goL (fun _ _ => inferInstance) ?_ | with_reducible intro _ | refine goO (by first | omega | (simp only [List.length_cons, List.length_nil]; omega)) ?_ | fail))
    exact backN (σ0 := σ) Try.results25 (fun σ' _ _ => hK σ' inferInstance)⟩
end
end Go.Proofs.Ythdhnkgnbdociaa
