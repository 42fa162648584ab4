/- The reference's coins: Less, Ripe, place, Find, without, put, Same, by contract. No condition. -/
import Derived.Test.YtpnbfohdfffolaaC4
import Derived.Test.YtpnbfohdfffolaaKl
set_option linter.all false
set_option maxHeartbeats 40000000
set_option synthInstance.maxHeartbeats 2000000
set_option synthInstance.maxSize 100000
namespace Go.Proofs.Ytpnbfohdfffolaa
open Go Go.RowKit
def cput (xs : List Cn) (k : Cn) : List Cn := xs.take (putI xs k) ++ k :: xs.drop (putI xs k)
theorem putC_none {xs : List Cn} {k : Cn} (h : placeC xs k.at_ = none) : putC xs k = some (cput xs k) := by unfold putC cput; rw [h]
theorem putC_some {xs : List Cn} {k : Cn} {i : Nat} (h : placeC xs k.at_ = some i) : putC xs k = none := by unfold putC; rw [h]
theorem cput_len (xs : List Cn) (k : Cn) : (cput xs k).length = xs.length + 1 := by
  unfold cput
  have := putI_le xs k
  simp; omega
theorem cput_cons (y : Cn) (l : List Cn) (k : Cn) : cput (y :: l) k = if plt k.at_ y.at_ then k :: y :: l else y :: cput l k := by
  unfold cput putI
  rw [List.findIdx?_cons]
  by_cases h : plt k.at_ y.at_ = true
  · simp [h]
  · simp only [Bool.not_eq_true] at h
    simp only [h, Bool.false_eq_true, if_false]
    cases l.findIdx? (fun x => plt k.at_ x.at_) <;> simp
theorem cput_snoc : ∀ (l : List Cn) (x k : Cn), cput (l ++ [x]) k = if l.any (fun y => plt k.at_ y.at_) then cput l k ++ [x] else if plt k.at_ x.at_ then l ++ [k, x] else l ++ [x, k]
  | [], x, k => by
    rw [List.nil_append, cput_cons]
    simp only [List.any_nil, Bool.false_eq_true, if_false]
    split
    · rfl
    · rfl
  | y :: l, x, k => by
    have ih := cput_snoc l x k
    rw [List.cons_append, cput_cons, cput_cons, ih, List.any_cons]
    by_cases h : plt k.at_ y.at_ = true
    · simp [h]
    · simp only [Bool.not_eq_true] at h
      simp only [h, Bool.false_eq_true, if_false, Bool.false_or]
      split
      · rfl
      · split <;> rfl
theorem cput_none {l : List Cn} {k : Cn} (h : l.any (fun y => plt k.at_ y.at_) = false) : cput l k = l ++ [k] := by
  have : l.findIdx? (fun x => plt k.at_ x.at_) = none := findIdx_none (by simpa using h)
  unfold cput putI
  rw [this]
  simp
theorem any_takeC {xs : List Cn} {k : Cn} {i : Nat} (h : i < xs.length) : (xs.take (i + 1)).any (fun y => plt k.at_ y.at_) = ((xs.take i).any (fun y => plt k.at_ y.at_) || plt k.at_ xs[i]!.at_) := by
  rw [take_snoc h]; simp
section
variable {σ : St} {A B : Option Addr} {n c m d b : Nat} {xs ys : List Cn} {p q : Pt} {k : Cn} {v1 v2 : Value} {t : Tx} {id : Key}
instance rule_r9_Less [h1 : ValOf ptE v1 p] [h2 : ValOf ptE v2 q] {bb : Bool} [qq : BV (plt p q) bb] : CallRule Try.prog 22 [v1, v2] σ (fun K _ => ∀ σ', Nx σ σ' .no → K (.bool bb) σ') := ⟨fun K E hK => by
  have hq := qq.eq; subst hq
  have e1 : v1 = .agg (cats [kc p.tx, #[.int .u32 (p.idx.toNat : Int)]]) := h1.eq
  have e2 : v2 = .agg (cats [kc q.tx, #[.int .u32 (q.idx.toNat : Int)]]) := h2.eq
  subst e1; subst e2
  by_cases h : p.tx = q.tx
  · haveI : BV (decide (p.tx = q.tx)) true := ⟨by simpa using h⟩
    haveI : BV (klt p.tx q.tx) false := ⟨by rw [h]; exact klt_irrefl _⟩
    have e : plt p q = decide ((p.idx.toNat : Int) < (q.idx.toNat : Int)) := by unfold plt; rw [if_pos h]
    rw [e] at hK
    refine calls_enter Try.func22 rfl _ Try.ntmps22 rfl ?_
    (repeat (first | refine go ?_ | refine goR ?_ | refine goS (fun yc hyc => ?_) | refine goL (fun _ _ => inferInstance) ?_ | with_reducible intro _ | refine goO (by first | omega | (simp only [List.length_cons, List.length_nil]; omega)) ?_ | fail))
    exact backN (σ0 := σ) Try.results22 (fun σ' _ _ => hK σ' inferInstance)
  · haveI : BV (decide (p.tx = q.tx)) false := ⟨by simpa using h⟩
    have e : plt p q = klt p.tx q.tx := by unfold plt; rw [if_neg h]
    rw [e] at hK
    cases hk : klt p.tx q.tx with
    | true =>
      haveI : BV (klt p.tx q.tx) true := ⟨hk⟩
      rw [hk] at hK
      refine calls_enter Try.func22 rfl _ Try.ntmps22 rfl ?_
      (repeat (first | refine go ?_ | refine goR ?_ | refine goS (fun yc hyc => ?_) | refine goL (fun _ _ => inferInstance) ?_ | with_reducible intro _ | refine goO (by first | omega | (simp only [List.length_cons, List.length_nil]; omega)) ?_ | fail))
      exact backN (σ0 := σ) Try.results22 (fun σ' _ _ => hK σ' inferInstance)
    | false =>
      haveI : BV (klt p.tx q.tx) false := ⟨hk⟩
      rw [hk] at hK
      refine calls_enter Try.func22 rfl _ Try.ntmps22 rfl ?_
      (repeat (first | refine go ?_ | refine goR ?_ | refine goS (fun yc hyc => ?_) | refine goL (fun _ _ => inferInstance) ?_ | with_reducible intro _ | refine goO (by first | omega | (simp only [List.length_cons, List.length_nil]; omega)) ?_ | fail))
      exact backN (σ0 := σ) Try.results22 (fun σ' _ _ => hK σ' inferInstance)⟩
instance rule_r9_Ripe [h1 : ValOf cnE v1 k] {h : Int} {hh : UInt32} [u : U32 h hh] {bb : Bool} [qq : BV (ripe k hh) bb] : CallRule Try.prog 23 [v1, .int .u32 h] σ (fun K _ => ∀ σ', Nx σ σ' .no → K (.bool bb) σ') := ⟨fun K E hK => by
  have hq := qq.eq; subst hq
  have e1 : v1 = .agg (cats [kc k.at_.tx, #[.int .u32 (k.at_.idx.toNat : Int)], #[.int .i64 k.out.val.toInt], kc k.out.lock, #[.int .u32 (k.h.toNat : Int)], #[.bool k.base]]) := h1.eq
  have e2 := u.eq
  subst e1; subst e2
  have l1 := hh.toNat_lt
  have l2 := k.h.toNat_lt
  haveI : Fits .u64 (hh.toNat : Int) := Fits.u64 (by omega) (by omega)
  haveI : Fits .u64 (k.h.toNat : Int) := Fits.u64 (by omega) (by omega)
  haveI : Fits .u64 ((k.h.toNat : Int) + 3) := Fits.u64 (by omega) (by omega)
  cases hb : k.base with
  | false =>
    haveI : BV k.base false := ⟨hb⟩
    have e : ripe k hh = true := by unfold ripe; rw [hb]; rfl
    rw [e] at hK
    refine calls_enter Try.func23 rfl _ Try.ntmps23 rfl ?_
    (repeat (first | refine go ?_ | refine goR ?_ | refine goS (fun yc hyc => ?_) | refine goL (fun _ _ => inferInstance) ?_ | with_reducible intro _ | refine goO (by first | omega | (simp only [List.length_cons, List.length_nil]; omega)) ?_ | fail))
    exact backN (σ0 := σ) Try.results23 (fun σ' _ _ => hK σ' inferInstance)
  | true =>
    haveI : BV k.base true := ⟨hb⟩
    have e : ripe k hh = decide ((k.h.toNat : Int) + 3 ≤ (hh.toNat : Int)) := by
      unfold ripe; rw [hb, Bool.eq_iff_iff]
      simp only [Bool.not_true, Bool.false_or, Bool.and_eq_true, decide_eq_true_eq]; omega
    rw [e] at hK
    refine calls_enter Try.func23 rfl _ Try.ntmps23 rfl ?_
    (repeat (first | refine go ?_ | refine goR ?_ | refine goS (fun yc hyc => ?_) | refine goL (fun _ _ => inferInstance) ?_ | with_reducible intro _ | refine goO (by first | omega | (simp only [List.length_cons, List.length_nil]; omega)) ?_ | fail))
    exact backN (σ0 := σ) Try.results23 (fun σ' _ _ => hK σ' inferInstance)⟩
instance rule_r9_place [h : SL σ A n c cnE xs] [h1 : ValOf ptE v1 p] {o : Option Nat} {v : Int} [q1 : Is (placeC xs p) o] [q2 : OptI o v] : CallRule Try.prog 38 [.slice A n c, v1] σ (fun K _ => ∀ σ', Nx σ σ' .no → K (.int .i64 v) σ') := ⟨fun K E hK => by
  have e1 : v1 = .agg (cats [kc p.tx, #[.int .u32 (p.idx.toNat : Int)]]) := h1.eq
  subst e1
  have hq := q1.eq; subst hq
  have hq := q2.eq; subst hq
  have hl := h.len
  have hm := h.max
  refine calls_enter Try.func38 rfl _ Try.ntmps38 rfl ?_
  (repeat (first | refine go ?_ | refine goR ?_ | refine goS (fun yc hyc => ?_) | refine goL (fun _ _ => inferInstance) ?_ | with_reducible intro _ | refine goO (by first | omega | (simp only [List.length_cons, List.length_nil]; omega)) ?_ | fail))
  refine WC.loopW 1048560 .no (fun (i : Nat) f s => At f 5 (.int .i64 (i : Int)) ∧ i ≤ n ∧ ∀ x ∈ xs.take i, decide (x.at_ = p) = false) (fun i => n - i) 0 ⟨At.to (.int .i64 0) rfl, Nat.zero_le _, by simp⟩ ?_
  rintro i f s ha hs ⟨a8, hi, hf⟩
  by_cases hlt : i < n
  · haveI : BV (decide ((i : Int) < (n : Int))) true := ⟨by simpa using hlt⟩
    haveI : IdxLt i n := ⟨hlt⟩
    haveI : Fits .i64 ((i : Int) + 1) := Fits.i64 (by omega) (by omega)
    by_cases hc : xs[i]!.at_ = p
    · haveI : BV (decide (xs[i]!.at_ = p)) true := ⟨by simpa using hc⟩
      (repeat (first | refine go ?_ | refine goR ?_ | refine goS (fun yc hyc => ?_) | refine goL (fun _ _ => inferInstance) ?_ | with_reducible intro _ | refine goO (by first | omega | (simp only [List.length_cons, List.length_nil]; omega)) ?_ | fail))
      refine WC.draw [] (.p 0 (.p 1 (.l 2 (.l 3 (.l 4 (.l 5 (.p 6 .nil))))))) mixed (by decide +kernel) ?_
      (repeat (first | refine go ?_ | refine goR ?_ | refine goS (fun yc hyc => ?_) | refine goL (fun _ _ => inferInstance) ?_ | with_reducible intro _ | refine goO (by first | omega | (simp only [List.length_cons, List.length_nil]; omega)) ?_ | fail))
      unfold placeC at hK
      rw [findIdx_at (by omega) hf (by simpa using hc)] at hK
      exact backN (σ0 := σ) Try.results38 (fun σ' _ _ => hK σ' inferInstance)
    · haveI : BV (decide (xs[i]!.at_ = p)) false := ⟨by simpa using hc⟩
      (repeat (first | refine go ?_ | refine goR ?_ | refine goS (fun yc hyc => ?_) | refine goL (fun _ _ => inferInstance) ?_ | with_reducible intro _ | refine goO (by first | omega | (simp only [List.length_cons, List.length_nil]; omega)) ?_ | fail))
      refine WC.draw [] (.p 0 (.p 1 (.l 2 (.l 3 (.l 4 (.l 5 (.p 6 .nil))))))) mixed (by decide +kernel) ?_
      (repeat (first | refine go ?_ | refine goR ?_ | refine goS (fun yc hyc => ?_) | refine goL (fun _ _ => inferInstance) ?_ | with_reducible intro _ | refine goO (by first | omega | (simp only [List.length_cons, List.length_nil]; omega)) ?_ | fail))
      refine loop_w (i + 1) ⟨At.to (.int .i64 ((i : Int) + 1)) (by simp), hlt, all_take_succ (by omega) hf (by simpa using hc)⟩ (by omega)
  · haveI : BV (decide ((i : Int) < (n : Int))) false := ⟨by simpa using hlt⟩
    (repeat (first | refine go ?_ | refine goR ?_ | refine goS (fun yc hyc => ?_) | refine goL (fun _ _ => inferInstance) ?_ | with_reducible intro _ | refine goO (by first | omega | (simp only [List.length_cons, List.length_nil]; omega)) ?_ | fail))
    rw [take_all (by omega)] at hf
    unfold placeC at hK
    rw [findIdx_none hf] at hK
    exact backN (σ0 := σ) Try.results38 (fun σ' _ _ => hK σ' inferInstance)⟩
instance rule_r9_Find [h : SL σ A n c cnE xs] [h1 : ValOf ptE v1 p] {o : Option Nat} [q1 : Is (placeC xs p) o] {oc : Option Cn} [q2 : Is (o.map fun i => xs[i]!) oc] {kk : Cn} {bb : Bool} [q3 : OptG oc kk bb] : CallRule Try.prog 21 [.slice A n c, v1] σ (fun K _ => ∀ σ', Nx σ σ' .no → K (.tuple #[.agg (cats [kc kk.at_.tx, #[.int .u32 (kk.at_.idx.toNat : Int)], #[.int .i64 kk.out.val.toInt], kc kk.out.lock, #[.int .u32 (kk.h.toNat : Int)], #[.bool kk.base]]), .bool bb]) σ') := ⟨fun K E hK => by
  have e1 : v1 = .agg (cats [kc p.tx, #[.int .u32 (p.idx.toNat : Int)]]) := h1.eq
  subst e1
  have hq := q1.eq; subst hq
  have hq := q2.eq; subst hq
  obtain ⟨hq, hq2⟩ := q3.eq
  subst hq; subst hq2
  have hl := h.len
  cases hp : placeC xs p with
  | none =>
    haveI : Is (placeC xs p) none := ⟨hp⟩
    haveI : BV (decide ((-1 : Int) < 0)) true := ⟨by simp⟩
    rw [hp] at hK
    refine calls_enter Try.func21 rfl _ Try.ntmps21 rfl ?_
    (repeat (first | refine go ?_ | refine goR ?_ | refine goS (fun yc hyc => ?_) | refine goL (fun _ _ => inferInstance) ?_ | with_reducible intro _ | refine goO (by first | omega | (simp only [List.length_cons, List.length_nil]; omega)) ?_ | fail))
    exact backN (σ0 := σ) Try.results21 (fun σ' _ _ => hK σ' inferInstance)
  | some i =>
    have hi := findIdx_lt hp
    haveI : Is (placeC xs p) (some i) := ⟨hp⟩
    haveI : BV (decide ((i : Int) < 0)) false := ⟨by simp⟩
    haveI : IdxLt i n := ⟨by omega⟩
    rw [hp] at hK
    refine calls_enter Try.func21 rfl _ Try.ntmps21 rfl ?_
    (repeat (first | refine go ?_ | refine goR ?_ | refine goS (fun yc hyc => ?_) | refine goL (fun _ _ => inferInstance) ?_ | with_reducible intro _ | refine goO (by first | omega | (simp only [List.length_cons, List.length_nil]; omega)) ?_ | fail))
    exact backN (σ0 := σ) Try.results21 (fun σ' _ _ => hK σ' inferInstance)⟩
end
end Go.Proofs.Ytpnbfohdfffolaa
