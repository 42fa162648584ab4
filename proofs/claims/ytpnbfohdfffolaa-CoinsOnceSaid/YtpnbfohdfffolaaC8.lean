/- The reference's coins: without, put, Same; theirs, heavy, rising, by contract. No condition. -/
import Derived.Test.YtpnbfohdfffolaaC7
set_option linter.all false
set_option maxHeartbeats 40000000
set_option synthInstance.maxHeartbeats 2000000
set_option synthInstance.maxSize 100000
namespace Go.Proofs.Ytpnbfohdfffolaa
open Go Go.RowKit
theorem er_eq {xs : List Cn} {i : Nat} : xs.eraseIdx i = xs.take i ++ xs.drop (i + 1) := List.eraseIdx_eq_take_drop_succ ..
theorem er_step {xs : List Cn} {i j : Nat} (h : j < xs.length) : (xs.take (j + 1)).eraseIdx i = if j = i then (xs.take j).eraseIdx i else (xs.take j).eraseIdx i ++ [xs[j]!] := by
  rw [take_snoc h]
  by_cases e : j = i
  · subst e
    rw [if_pos rfl]
    rw [List.eraseIdx_append_of_length_le (by simp <;> omega), List.eraseIdx_of_length_le (l := xs.take j) (by simp <;> omega)]
    simp [Nat.min_eq_left (Nat.le_of_lt h)]
  · rw [if_neg e]
    rcases Nat.lt_or_ge i j with hl | hg
    · rw [List.eraseIdx_append_of_lt_length (by simp <;> omega)]
    · rw [List.eraseIdx_append_of_length_le (by simp <;> omega), List.eraseIdx_of_length_le (l := xs.take j) (by simp <;> omega), List.eraseIdx_of_length_le (by simp <;> omega)]
theorem takeC_snoc_eq {xs ys : List Cn} {i : Nat} (h1 : i < xs.length) (h2 : i < ys.length) (h : xs.take i = ys.take i) (e : xs[i]! = ys[i]!) : xs.take (i + 1) = ys.take (i + 1) := by
  rw [take_snoc h1, take_snoc h2, h, e]
def heavyM (n : Nat) (t : Tx) : Bool := decide ((100 : Int) < (n : Int)) || decide ((60 : Int) < (t.ins.n : Int)) || decide ((60 : Int) < (t.outs.n : Int))
theorem heavy_f {n : Nat} {t : Tx} (h : heavyM n t = false) : n ≤ 100 ∧ t.ins.n ≤ 60 ∧ t.outs.n ≤ 60 := by
  unfold heavyM at h
  simp only [Bool.or_eq_false_iff, decide_eq_false_iff_not] at h
  omega
/-- coins that rise, each point once -/
def riseP (xs : List Cn) : Prop := xs.Pairwise fun a b => plt a.at_ b.at_ = true
class Rises (xs : List Cn) : Prop where
  h : riseP xs
theorem rise_adj {xs : List Cn} (h : riseP xs) {i : Nat} (h0 : 0 < i) (h1 : i < xs.length) : plt xs[i - 1]!.at_ xs[i]!.at_ = true := by
  unfold riseP at h
  rw [List.pairwise_iff_getElem] at h
  have := h (i - 1) i (by omega) h1 (by omega)
  rwa [getElem!_pos xs i h1, getElem!_pos xs (i - 1) (by omega)]
section
variable {σ : St} {A B : Option Addr} {n c m d b : Nat} {xs ys : List Cn} {p q : Pt} {k : Cn} {v1 v2 : Value} {t : Tx} {id : Key}
instance rule_without [h : SL σ A n c cnE xs] {ji : Int} {i : Nat} [q : ToNat ji i] [l : IdxLt i n] : CallRule Try.prog 39 [.slice A n c, .int .i64 ji] σ (fun K _ => (n ≤ 100000000000) ∧ ∀ σ' A' c', Nx σ σ' .no → SL σ' A' (xs.take i ++ xs.drop (i + 1)).length c' cnE (xs.take i ++ xs.drop (i + 1)) → K (.slice A' (xs.take i ++ xs.drop (i + 1)).length c') σ') := ⟨fun K E hK => by
  obtain ⟨hn, hK⟩ := hK
  have e1 := q.eq
  subst e1
  have hin := l.lt
  have hl := h.len
  refine calls_enter Try.func39 rfl _ Try.ntmps39 rfl ?_
  (repeat (first | refine go ?_ | refine goR ?_ | refine goS (fun yc hyc => ?_) | refine goL (fun _ _ => inferInstance) ?_ | with_reducible intro _ | refine goO (by first | omega | (simp only [List.length_cons, List.length_nil]; omega)) ?_ | fail))
  rename Option Addr => A0
  rename St => s0
  refine WC.loopW 16777056 (.row A0 65) (fun (j : Nat) f s => At f 6 (.int .i64 (j : Int)) ∧ j ≤ n ∧ ∃ A1 m1 c1 zs, At f 5 (.slice A1 m1 c1) ∧ Row s A1 m1 c1 65 cnE zs ∧ RowNew s0 A0 A1 ∧ zs = (xs.take j).eraseIdx i ∧ m1 ≤ j) (fun j => n - j) 0
    ⟨At.to (.int .i64 0) rfl, Nat.zero_le _, A0, 0, 0, [], inferInstance, inferInstance, Gr.rn inferInstance, by simp, Nat.le_refl _⟩ ?_
  rintro j f s ha hs ⟨a6, hj, A1, m1, c1, zs, a5, hr, hrn, hzs, hm1⟩
  by_cases hlt : j < n
  · haveI : BV (decide ((j : Int) < (n : Int))) true := ⟨by simpa using hlt⟩
    haveI : IdxLt j n := ⟨hlt⟩
    haveI : Fits .i64 ((j : Int) + 1) := Fits.i64 (by omega) (by omega)
    have hst := er_step (i := i) (show j < xs.length by omega)
    by_cases e : j = i
    · haveI : BV (decide ((j : Int) = (i : Int))) true := ⟨by simp; omega⟩
      rw [if_pos e] at hst
      (repeat (first | refine go ?_ | refine goR ?_ | refine goS (fun yc hyc => ?_) | refine goL (fun _ _ => inferInstance) ?_ | with_reducible intro _ | refine goO (by first | omega | (simp only [List.length_cons, List.length_nil]; omega)) ?_ | fail))
      refine loop_w (j + 1) ⟨At.to (.int .i64 ((j : Int) + 1)) (by simp), hlt, _, _, _, _, inferInstance, inferInstance, Gr.rn inferInstance, by rw [hst, hzs], by omega⟩ (by omega)
    · haveI : BV (decide ((j : Int) = (i : Int))) false := ⟨by simp; omega⟩
      rw [if_neg e] at hst
      (repeat (first | refine go ?_ | refine goR ?_ | refine goS (fun yc hyc => ?_) | refine goL (fun _ _ => inferInstance) ?_ | with_reducible intro _ | refine goO (by first | omega | (simp only [List.length_cons, List.length_nil]; omega)) ?_ | fail))
      refine loop_w (j + 1) ⟨At.to (.int .i64 ((j : Int) + 1)) (by simp), hlt, _, _, _, _, inferInstance, inferInstance, Gr.rn inferInstance, by rw [hst, hzs], by omega⟩ (by omega)
  · haveI : BV (decide ((j : Int) < (n : Int))) false := ⟨by simpa using hlt⟩
    rw [take_all (by omega), er_eq] at hzs
    have e := hr.len
    subst hzs
    subst e
    (repeat (first | refine go ?_ | refine goR ?_ | refine goS (fun yc hyc => ?_) | refine goL (fun _ _ => inferInstance) ?_ | with_reducible intro _ | refine goO (by first | omega | (simp only [List.length_cons, List.length_nil]; omega)) ?_ | fail))
    exact backN (σ0 := σ) Try.results39 (fun σ' _ _ => hK σ' _ _ inferInstance inferInstance)⟩
instance rule_r9_put [h : SL σ A n c cnE xs] [h1 : ValOf cnE v1 k] : CallRule Try.prog 40 [.slice A n c, v1] σ (fun K _ => (n ≤ 100000000000) ∧ ∀ σ' A' c', Nx σ σ' .no → SL σ' A' (cput xs k).length c' cnE (cput xs k) → K (.slice A' (cput xs k).length c') σ') := ⟨fun K E hK => by
  have e1 : v1 = .agg (cats [kc k.at_.tx, #[.int .u32 (k.at_.idx.toNat : Int)], #[.int .i64 k.out.val.toInt], kc k.out.lock, #[.int .u32 (k.h.toNat : Int)], #[.bool k.base]]) := h1.eq
  subst e1
  obtain ⟨hn, hK⟩ := hK
  have hl := h.len
  refine calls_enter Try.func40 rfl _ Try.ntmps40 rfl ?_
  (repeat (first | refine go ?_ | refine goR ?_ | refine goS (fun yc hyc => ?_) | refine goL (fun _ _ => inferInstance) ?_ | with_reducible intro _ | refine goO (by first | omega | (simp only [List.length_cons, List.length_nil]; omega)) ?_ | fail))
  rename Option Addr => A0
  rename St => s0
  refine WC.loopW 274877906656 (.row A0 65) (fun (i : Nat) f s => At f 7 (.int .i64 (i : Int)) ∧ i ≤ n ∧ ∃ dn : Bool, ∃ A1 m1 c1 zs, At f 6 (.bool dn) ∧ At f 5 (.slice A1 m1 c1) ∧ Row s A1 m1 c1 65 cnE zs ∧ RowNew s0 A0 A1 ∧ dn = (xs.take i).any (fun y => plt k.at_ y.at_) ∧ zs = (if dn then cput (xs.take i) k else xs.take i)) (fun i => n - i) 0
    ⟨At.to (.int .i64 0) rfl, Nat.zero_le _, false, A0, 0, 0, [], inferInstance, inferInstance, inferInstance, Gr.rn inferInstance, rfl, rfl⟩ ?_
  rintro i f s ha hs ⟨a7, hi, dn, A1, m1, c1, zs, a6, a5, hr, hrn, hdn, hzs⟩
  have hm1 := hr.len
  have hlen : m1 = i + (if dn then 1 else 0) := by
    rw [← hm1, hzs]
    cases dn
    · simp; omega
    · simp [cput_len]; omega
  by_cases hlt : i < n
  · haveI : BV (decide ((i : Int) < (n : Int))) true := ⟨by simpa using hlt⟩
    haveI : IdxLt i n := ⟨hlt⟩
    haveI : Fits .i64 ((i : Int) + 1) := Fits.i64 (by omega) (by omega)
    have hat := any_takeC (k := k) (show i < xs.length by omega)
    have hks := cput_snoc (xs.take i) xs[i]! k
    rw [← take_snoc (by omega)] at hks
    cases dn with
    | true =>
      simp only [if_true] at hzs hlen
      rw [← hdn] at hat hks
      simp only [Bool.true_or, if_true] at hat hks
      (repeat (first | refine go ?_ | refine goR ?_ | refine goS (fun yc hyc => ?_) | refine goL (fun _ _ => inferInstance) ?_ | with_reducible intro _ | refine goO (by first | omega | (simp only [List.length_cons, List.length_nil]; omega)) ?_ | fail))
      refine WC.draw [] (.p 0 (.p 1 (.p 2 (.l 3 (.l 4 (.p 5 (.p 6 (.l 7 (.l 8 (.l 9 (.h 10 (.p 11 .nil)))))))))))) mixed (by decide +kernel) ?_
      (repeat (first | refine go ?_ | refine goR ?_ | refine goS (fun yc hyc => ?_) | refine goL (fun _ _ => inferInstance) ?_ | with_reducible intro _ | refine goO (by first | omega | (simp only [List.length_cons, List.length_nil]; omega)) ?_ | fail))
      refine loop_w (i + 1) ⟨At.to (.int .i64 ((i : Int) + 1)) (by simp), hlt, true, _, _, _, _, inferInstance, inferInstance, inferInstance, Gr.rn inferInstance, hat.symm, ?_⟩ (by omega)
      rw [if_pos rfl, hks, hzs]
    | false =>
      rw [← hdn] at hat hks
      simp only [Bool.false_eq_true, if_false] at hzs hlen hks
      rw [Bool.false_or] at hat
      by_cases hk : plt k.at_ xs[i]!.at_ = true
      · haveI : BV (plt k.at_ xs[i]!.at_) true := ⟨hk⟩
        (repeat (first | refine go ?_ | refine goR ?_ | refine goS (fun yc hyc => ?_) | refine goL (fun _ _ => inferInstance) ?_ | with_reducible intro _ | refine goO (by first | omega | (simp only [List.length_cons, List.length_nil]; omega)) ?_ | fail))
        refine WC.draw [] (.p 0 (.p 1 (.p 2 (.l 3 (.l 4 (.p 5 (.p 6 (.l 7 (.l 8 (.l 9 (.h 10 (.p 11 .nil)))))))))))) mixed (by decide +kernel) ?_
        (repeat (first | refine go ?_ | refine goR ?_ | refine goS (fun yc hyc => ?_) | refine goL (fun _ _ => inferInstance) ?_ | with_reducible intro _ | refine goO (by first | omega | (simp only [List.length_cons, List.length_nil]; omega)) ?_ | fail))
        refine loop_w (i + 1) ⟨At.to (.int .i64 ((i : Int) + 1)) (by simp), hlt, true, _, _, _, _, inferInstance, inferInstance, inferInstance, Gr.rn inferInstance, by rw [hat, hk], ?_⟩ (by omega)
        rw [if_pos rfl, hks, if_pos hk, hzs]; simp
      · simp only [Bool.not_eq_true] at hk
        haveI : BV (plt k.at_ xs[i]!.at_) false := ⟨hk⟩
        (repeat (first | refine go ?_ | refine goR ?_ | refine goS (fun yc hyc => ?_) | refine goL (fun _ _ => inferInstance) ?_ | with_reducible intro _ | refine goO (by first | omega | (simp only [List.length_cons, List.length_nil]; omega)) ?_ | fail))
        refine WC.draw [] (.p 0 (.p 1 (.p 2 (.l 3 (.l 4 (.p 5 (.p 6 (.l 7 (.l 8 (.l 9 (.h 10 (.p 11 .nil)))))))))))) mixed (by decide +kernel) ?_
        (repeat (first | refine go ?_ | refine goR ?_ | refine goS (fun yc hyc => ?_) | refine goL (fun _ _ => inferInstance) ?_ | with_reducible intro _ | refine goO (by first | omega | (simp only [List.length_cons, List.length_nil]; omega)) ?_ | fail))
        refine loop_w (i + 1) ⟨At.to (.int .i64 ((i : Int) + 1)) (by simp), hlt, false, _, _, _, _, inferInstance, inferInstance, inferInstance, Gr.rn inferInstance, by rw [hat, hk], ?_⟩ (by omega)
        rw [if_neg (by simp), hzs, take_snoc (by omega)]
  · haveI : BV (decide ((i : Int) < (n : Int))) false := ⟨by simpa using hlt⟩
    have ht : xs.take i = xs := take_all (by omega)
    rw [ht] at hdn hzs
    cases dn with
    | true =>
      simp only [if_true] at hzs
      have e := hr.len
      subst hzs
      subst e
      (repeat (first | refine go ?_ | refine goR ?_ | refine goS (fun yc hyc => ?_) | refine goL (fun _ _ => inferInstance) ?_ | with_reducible intro _ | refine goO (by first | omega | (simp only [List.length_cons, List.length_nil]; omega)) ?_ | fail))
      exact backN (σ0 := σ) Try.results40 (fun σ' _ _ => hK σ' _ _ inferInstance inferInstance)
    | false =>
      simp only [Bool.false_eq_true, if_false] at hzs
      have e := hr.len
      subst hzs
      subst e
      rw [cput_none hdn.symm] at hK
      simp only [List.length_append, List.length_cons, List.length_nil, Nat.zero_add] at hK
      (repeat (first | refine go ?_ | refine goR ?_ | refine goS (fun yc hyc => ?_) | refine goL (fun _ _ => inferInstance) ?_ | with_reducible intro _ | refine goO (by first | omega | (simp only [List.length_cons, List.length_nil]; omega)) ?_ | fail))
      exact backN (σ0 := σ) Try.results40 (fun σ' _ _ => hK σ' _ _ inferInstance inferInstance)⟩
instance rule_r9_Same [h : SL σ A n c cnE xs] [g : SL σ B m d cnE ys] {bb : Bool} [q : BV (decide (xs = ys)) bb] :
    CallRule Try.prog 16 [.slice A n c, .slice B m d] σ (fun K _ => ∀ σ', Nx σ σ' .no → K (.bool bb) σ') := ⟨fun K E hK => by
  have hq := q.eq; subst hq
  have hl1 := h.len
  have hl2 := g.len
  have hm := h.max
  by_cases hnm : n = m
  · subst hnm
    refine calls_enter Try.func16 rfl _ Try.ntmps16 rfl ?_
    (repeat (first | refine go ?_ | refine goR ?_ | refine goS (fun yc hyc => ?_) | refine goL (fun _ _ => inferInstance) ?_ | with_reducible intro _ | refine goO (by first | omega | (simp only [List.length_cons, List.length_nil]; omega)) ?_ | fail))
    refine WC.loopW 67106864 .no (fun (i : Nat) f s => At f 5 (.int .i64 (i : Int)) ∧ i ≤ n ∧ xs.take i = ys.take i) (fun i => n - i) 0 ⟨At.to (.int .i64 0) rfl, Nat.zero_le _, rfl⟩ ?_
    rintro i f s ha hs ⟨a5, hi, he⟩
    by_cases hlt : i < n
    · haveI : BV (decide ((i : Int) < (n : Int))) true := ⟨by simpa using hlt⟩
      haveI : IdxLt i n := ⟨hlt⟩
      haveI : Fits .i64 ((i : Int) + 1) := Fits.i64 (by omega) (by omega)
      by_cases hx : xs[i]! = ys[i]!
      · haveI : BV (decide (xs[i]! = ys[i]!)) true := ⟨by simpa using hx⟩
        (repeat (first | refine go ?_ | refine goR ?_ | refine goS (fun yc hyc => ?_) | refine goL (fun _ _ => inferInstance) ?_ | with_reducible intro _ | refine goO (by first | omega | (simp only [List.length_cons, List.length_nil]; omega)) ?_ | fail))
        refine WC.draw [] (.p 0 (.p 1 (.l 2 (.l 3 (.p 4 (.p 5 (.l 6 (.l 7 (.p 8 .nil))))))))) mixed (by decide +kernel) ?_
        (repeat (first | refine go ?_ | refine goR ?_ | refine goS (fun yc hyc => ?_) | refine goL (fun _ _ => inferInstance) ?_ | with_reducible intro _ | refine goO (by first | omega | (simp only [List.length_cons, List.length_nil]; omega)) ?_ | fail))
        refine loop_w (i + 1) ⟨At.to (.int .i64 ((i : Int) + 1)) (by simp), hlt, takeC_snoc_eq (by omega) (by omega) he hx⟩ (by omega)
      · haveI : BV (decide (xs[i]! = ys[i]!)) false := ⟨by simpa using hx⟩
        (repeat (first | refine go ?_ | refine goR ?_ | refine goS (fun yc hyc => ?_) | refine goL (fun _ _ => inferInstance) ?_ | with_reducible intro _ | refine goO (by first | omega | (simp only [List.length_cons, List.length_nil]; omega)) ?_ | fail))
        refine WC.draw [] (.p 0 (.p 1 (.l 2 (.l 3 (.p 4 (.p 5 (.l 6 (.l 7 (.p 8 .nil))))))))) mixed (by decide +kernel) ?_
        (repeat (first | refine go ?_ | refine goR ?_ | refine goS (fun yc hyc => ?_) | refine goL (fun _ _ => inferInstance) ?_ | with_reducible intro _ | refine goO (by first | omega | (simp only [List.length_cons, List.length_nil]; omega)) ?_ | fail))
        have : ¬ xs = ys := by rintro rfl; exact hx rfl
        simp only [this, decide_false] at hK
        exact backN (σ0 := σ) Try.results16 (fun σ' _ _ => hK σ' inferInstance)
    · haveI : BV (decide ((i : Int) < (n : Int))) false := ⟨by simpa using hlt⟩
      rw [take_all (by omega), take_all (by omega)] at he
      simp only [he, decide_true] at hK
      (repeat (first | refine go ?_ | refine goR ?_ | refine goS (fun yc hyc => ?_) | refine goL (fun _ _ => inferInstance) ?_ | with_reducible intro _ | refine goO (by first | omega | (simp only [List.length_cons, List.length_nil]; omega)) ?_ | fail))
      exact backN (σ0 := σ) Try.results16 (fun σ' _ _ => hK σ' inferInstance)
  · haveI : BV (decide ((n : Int) = (m : Int))) false := ⟨by simp; omega⟩
    have : ¬ xs = ys := by rintro rfl; omega
    simp only [this, decide_false] at hK
    refine calls_enter Try.func16 rfl _ Try.ntmps16 rfl ?_
    (repeat (first | refine go ?_ | refine goR ?_ | refine goS (fun yc hyc => ?_) | refine goL (fun _ _ => inferInstance) ?_ | with_reducible intro _ | refine goO (by first | omega | (simp only [List.length_cons, List.length_nil]; omega)) ?_ | fail))
    exact backN (σ0 := σ) Try.results16 (fun σ' _ _ => hK σ' inferInstance)⟩
instance rule_theirs [h : SL σ A n c cnE xs] : CallRule Try.prog 17 [.slice A n c] σ (fun K _ => (n ≤ 100000000000) ∧ ∀ σ' A' c', Nx σ σ' .no → SL σ' A' n c' cnE xs → K (.slice A' n c') σ') := ⟨fun K E hK => by
  obtain ⟨hn, hK⟩ := hK
  have hl := h.len
  refine calls_enter Try.func17 rfl _ Try.ntmps17 rfl ?_
  (repeat (first | refine go ?_ | refine goR ?_ | refine goS (fun yc hyc => ?_) | refine goL (fun _ _ => inferInstance) ?_ | with_reducible intro _ | refine goO (by first | omega | (simp only [List.length_cons, List.length_nil]; omega)) ?_ | fail))
  rename Option Addr => A0
  rename St => s0
  refine WC.loopW 524248 (.row A0 65) (fun (i : Nat) f s => At f 4 (.int .i64 (i : Int)) ∧ i ≤ n ∧ ∃ A1 c1, At f 3 (.slice A1 i c1) ∧ Row s A1 i c1 65 cnE (xs.take i) ∧ RowNew s0 A0 A1) (fun i => n - i) 0
    ⟨At.to (.int .i64 0) rfl, Nat.zero_le _, A0, 0, inferInstance, by rw [List.take_zero]; infer_instance, Gr.rn inferInstance⟩ ?_
  rintro i f s ha hs ⟨a4, hi, A1, c1, a3, hr, hrn⟩
  by_cases hlt : i < n
  · haveI : BV (decide ((i : Int) < (n : Int))) true := ⟨by simpa using hlt⟩
    haveI : IdxLt i n := ⟨hlt⟩
    haveI : Fits .i64 ((i : Int) + 1) := Fits.i64 (by omega) (by omega)
    have hst := take_snoc (show i < xs.length by omega)
    (repeat (first | refine go ?_ | refine goR ?_ | refine goS (fun yc hyc => ?_) | refine goL (fun _ _ => inferInstance) ?_ | with_reducible intro _ | refine goO (by first | omega | (simp only [List.length_cons, List.length_nil]; omega)) ?_ | fail))
    refine loop_w (i + 1) ⟨At.to (.int .i64 ((i : Int) + 1)) (by simp), hlt, _, _, inferInstance, by rw [hst]; infer_instance, Gr.rn inferInstance⟩ (by omega)
  · haveI : BV (decide ((i : Int) < (n : Int))) false := ⟨by simpa using hlt⟩
    have e : i = n := by omega
    subst e
    rw [take_all hl] at hr
    (repeat (first | refine go ?_ | refine goR ?_ | refine goS (fun yc hyc => ?_) | refine goL (fun _ _ => inferInstance) ?_ | with_reducible intro _ | refine goO (by first | omega | (simp only [List.length_cons, List.length_nil]; omega)) ?_ | fail))
    exact backN (σ0 := σ) Try.results17 (fun σ' _ _ => hK σ' _ _ inferInstance inferInstance)⟩
instance rule_heavy [h : SLq σ A n c cnE xs] [ht : EncV σ txE v1 t] {bb : Bool} [q : BV (heavyM n t) bb] : CallRule Try.prog 14 [.slice A n c, v1] σ (fun K _ => ∀ σ', Nx σ σ' .no → K (.bool bb) σ') := ⟨fun K E hK => by
  have hq := q.eq; subst hq
  have e1 : v1 = .agg (cats [#[.int .u32 (t.exp.toNat : Int)], #[.slice t.ins.A t.ins.n t.ins.c], #[.slice t.outs.A t.outs.n t.outs.c], kc t.anchor, #[.slice t.nulls.A t.nulls.n t.nulls.c], #[.slice t.notes.A t.notes.n t.notes.c], #[.int .i64 t.bal.toInt]]) := ht.eq
  subst e1
  haveI : OkE σ txE t := ⟨ht.ok⟩
  by_cases h1 : 100 < n
  · haveI : BV (decide ((100 : Int) < (n : Int))) true := ⟨by simp; omega⟩
    have e : heavyM n t = true := by unfold heavyM; simp; omega
    rw [e] at hK
    refine calls_enter Try.func14 rfl _ Try.ntmps14 rfl ?_
    (repeat (first | refine go ?_ | refine goR ?_ | refine goS (fun yc hyc => ?_) | refine goL (fun _ _ => inferInstance) ?_ | with_reducible intro _ | refine goO (by first | omega | (simp only [List.length_cons, List.length_nil]; omega)) ?_ | fail))
    exact backN (σ0 := σ) Try.results14 (fun σ' _ _ => hK σ' inferInstance)
  haveI : BV (decide ((100 : Int) < (n : Int))) false := ⟨by simp; omega⟩
  by_cases h2 : 60 < t.ins.n
  · haveI : BV (decide ((60 : Int) < (t.ins.n : Int))) true := ⟨by simp; omega⟩
    have e : heavyM n t = true := by unfold heavyM; simp; omega
    rw [e] at hK
    refine calls_enter Try.func14 rfl _ Try.ntmps14 rfl ?_
    (repeat (first | refine go ?_ | refine goR ?_ | refine goS (fun yc hyc => ?_) | refine goL (fun _ _ => inferInstance) ?_ | with_reducible intro _ | refine goO (by first | omega | (simp only [List.length_cons, List.length_nil]; omega)) ?_ | fail))
    exact backN (σ0 := σ) Try.results14 (fun σ' _ _ => hK σ' inferInstance)
  haveI : BV (decide ((60 : Int) < (t.ins.n : Int))) false := ⟨by simp; omega⟩
  have e : heavyM n t = decide ((60 : Int) < (t.outs.n : Int)) := by
    unfold heavyM
    rw [decide_eq_false (by omega : ¬ (100 : Int) < (n : Int)), decide_eq_false (by omega : ¬ (60 : Int) < (t.ins.n : Int))]; rfl
  rw [e] at hK
  refine calls_enter Try.func14 rfl _ Try.ntmps14 rfl ?_
  (repeat (first | refine go ?_ | refine goR ?_ | refine goS (fun yc hyc => ?_) | refine goL (fun _ _ => inferInstance) ?_ | with_reducible intro _ | refine goO (by first | omega | (simp only [List.length_cons, List.length_nil]; omega)) ?_ | fail))
  exact backN (σ0 := σ) Try.results14 (fun σ' _ _ => hK σ' inferInstance)⟩
instance rule_rising [h : SL σ A n c cnE xs] [rs : Rises xs] : CallRule Try.prog 18 [.slice A n c] σ (fun K _ => ∀ σ', Nx σ σ' .no → K (.bool true) σ') := ⟨fun K E hK => by
  have hl := h.len
  have hm := h.max
  refine calls_enter Try.func18 rfl _ Try.ntmps18 rfl ?_
  (repeat (first | refine go ?_ | refine goR ?_ | refine goS (fun yc hyc => ?_) | refine goL (fun _ _ => inferInstance) ?_ | with_reducible intro _ | refine goO (by first | omega | (simp only [List.length_cons, List.length_nil]; omega)) ?_ | fail))
  refine WC.loopW 8388604 .no (fun (i : Nat) f s => At f 3 (.int .i64 (i : Int)) ∧ 1 ≤ i ∧ i ≤ n + 1) (fun i => n + 1 - i) 1 ⟨At.to (.int .i64 1) rfl, Nat.le_refl _, by omega⟩ ?_
  rintro i f s ha hs ⟨a4, hi1, hin⟩
  by_cases hlt : i < n
  · haveI : BV (decide ((i : Int) < (n : Int))) true := ⟨by simpa using hlt⟩
    haveI : IdxLt i n := ⟨hlt⟩
    haveI : IdxLt (i - 1) n := ⟨by omega⟩
    haveI : LeN 1 i := ⟨hi1⟩
    haveI : Fits .i64 ((i : Int) - 1) := Fits.i64 (by omega) (by omega)
    haveI : Fits .i64 ((i : Int) + 1) := Fits.i64 (by omega) (by omega)
    haveI : BV (plt xs[i - 1]!.at_ xs[i]!.at_) true := ⟨rise_adj rs.h (by omega) (by omega)⟩
    (repeat (first | refine go ?_ | refine goR ?_ | refine goS (fun yc hyc => ?_) | refine goL (fun _ _ => inferInstance) ?_ | with_reducible intro _ | refine goO (by first | omega | (simp only [List.length_cons, List.length_nil]; omega)) ?_ | fail))
    refine WC.draw [] (.p 0 (.p 1 (.p 2 (.l 3 (.l 4 (.l 5 (.p 6 (.p 7 (.l 8 (.l 9 (.l 10 (.h 11 (.p 12 .nil))))))))))))) mixed (by decide +kernel) ?_
    (repeat (first | refine go ?_ | refine goR ?_ | refine goS (fun yc hyc => ?_) | refine goL (fun _ _ => inferInstance) ?_ | with_reducible intro _ | refine goO (by first | omega | (simp only [List.length_cons, List.length_nil]; omega)) ?_ | fail))
    refine loop_w (i + 1) ⟨At.to (.int .i64 ((i : Int) + 1)) (by simp), by omega, by omega⟩ (by omega)
  · haveI : BV (decide ((i : Int) < (n : Int))) false := ⟨by simpa using hlt⟩
    (repeat (first | refine go ?_ | refine goR ?_ | refine goS (fun yc hyc => ?_) | refine goL (fun _ _ => inferInstance) ?_ | with_reducible intro _ | refine goO (by first | omega | (simp only [List.length_cons, List.length_nil]; omega)) ?_ | fail))
    exact backN (σ0 := σ) Try.results18 (fun σ' _ _ => hK σ' inferInstance)⟩
end
end Go.Proofs.Ytpnbfohdfffolaa
