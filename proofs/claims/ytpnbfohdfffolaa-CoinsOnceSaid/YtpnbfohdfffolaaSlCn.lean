/- The library's functions on slices, at thurible/coins.Coin, by contract. No condition. -/
import Derived.Test.YtpnbfohdfffolaaRn
import Derived.Test.YtpnbfohdfffolaaEc
set_option linter.all false
set_option maxHeartbeats 40000000
set_option synthInstance.maxHeartbeats 2000000
set_option synthInstance.maxSize 100000
namespace Go.Proofs.Ytpnbfohdfffolaa
open Go Go.RowKit
section
variable {σ : St} {A B : Option Addr} {n c m d : Nat} {xs ys : List Cn}
instance rule_Clone_cn [h : RdN σ A n c cnE xs] : CallRule Try.prog 36 [.slice A n c] σ (fun K _ => (n * 88 ≤ 140737488355328) ∧ ∀ σ' A' c', Nx σ σ' .no → RowNew σ none A' → Row σ' A' n c' 40 cnE xs → K (.slice A' n c') σ') := ⟨fun K E hK => by
  have hrd := (inferInstance : Rd σ A n c cnE xs)
  have hl := hrd.len
  have hm := hrd.max
  obtain ⟨hn, hK⟩ := hK
  refine calls_enter Try.func36 rfl _ Try.ntmps36 rfl ?_
  (repeat (first | refine go ?_ | refine goR ?_ | refine goS (fun yc hyc => ?_) | refine goL (fun _ _ => inferInstance) ?_ | with_reducible intro _ | refine goO (by first | omega | (simp only [List.length_cons, List.length_nil]; omega)) ?_ | fail))
  refine WC.cond ?_ ?_ <;> intro hb
  · have hA : A = none := by simpa using hb
    have hn0 : n = 0 := by
      rcases hrd.rd with h0 | ⟨b, o, ha, _⟩
      · exact h0
      · rw [hA] at ha; cases ha
    have hx : xs = [] := List.eq_nil_of_length_eq_zero (by omega)
    subst hx; subst hn0
    (repeat (first | refine go ?_ | refine goR ?_ | refine goS (fun yc hyc => ?_) | refine goL (fun _ _ => inferInstance) ?_ | with_reducible intro _ | refine goO (by first | omega | (simp only [List.length_cons, List.length_nil]; omega)) ?_ | fail))
    exact res1 Try.results36 (hK _ none 0 (Sub.nx inferInstance) ⟨nofun⟩ ⟨rfl, by simp, Nat.le_refl _, Nat.zero_le _, .inl ⟨rfl, rfl⟩, nofun⟩)
  · (repeat (first | refine go ?_ | refine goR ?_ | refine goS (fun yc hyc => ?_) | refine goL (fun _ _ => inferInstance) ?_ | with_reducible intro _ | refine goO (by first | omega | (simp only [List.length_cons, List.length_nil]; omega)) ?_ | fail))
    simp only [Nat.zero_add, List.nil_append] at *
    exact res1 Try.results36 (hK _ _ _ (Sub.nx inferInstance) (Gr.rn inferInstance) (by assumption))⟩
instance rule_Delete_cn [h : Row σ A n c 40 cnE xs] {ji jj : Int} {i j : Nat} [qi : ToNat ji i] [qj : ToNat jj j] [l1 : LeN i j] [l2 : LeN j n] :
    CallRule Try.prog 42 [.slice A n c, .int .i64 ji, .int .i64 jj] σ (fun K _ => (n * 88 ≤ 140737488355328) ∧ ∀ σ', Nx σ σ' (.row A 40) → Row σ' A (i + (n - j)) c 40 cnE (xs.take i ++ xs.drop j) → K (.slice A (i + (n - j)) c) σ') := ⟨fun K E hK => by
  obtain ⟨hn, hK⟩ := hK
  have e1 := qi.eq
  have e2 := qj.eq
  subst e1; subst e2
  have h1 := l1.le
  have h2 := l2.le
  have hl := h.len
  have hle := h.le
  have hmx := h.max
  simp only [maxLen] at hmx
  haveI : LeN i n := ⟨by omega⟩
  by_cases hij : i = j
  · subst hij
    haveI : BV (decide ((i : Int) = (i : Int))) true := ⟨by simp⟩
    refine calls_enter Try.func42 rfl _ Try.ntmps42 rfl ?_
    (repeat (first | refine go ?_ | refine goR ?_ | refine goS (fun yc hyc => ?_) | refine goL (fun _ _ => inferInstance) ?_ | with_reducible intro _ | refine goO (by first | omega | (simp only [List.length_cons, List.length_nil]; omega)) ?_ | fail))
    have e : i + (n - i) = n := by omega
    rw [e, List.take_append_drop] at hK
    exact res1 Try.results42 (hK _ (Sx.nx inferInstance) inferInstance)
  · haveI : BV (decide ((i : Int) = (j : Int))) false := ⟨by simp; omega⟩
    haveI : LeN i c := ⟨by omega⟩
    haveI : LeN (i + (n - j)) c := ⟨by omega⟩
    haveI : LeN (i + (n - j)) n := ⟨by omega⟩
    haveI : LeN n c := ⟨hle⟩
    refine calls_enter Try.func42 rfl _ Try.ntmps42 rfl ?_
    (repeat (first | refine go ?_ | refine goR ?_ | refine goS (fun yc hyc => ?_) | refine goL (fun _ _ => inferInstance) ?_ | with_reducible intro _ | refine goO (by first | omega | (simp only [List.length_cons, List.length_nil]; omega)) ?_ | fail))
    refine WC.draw [6] (.p 0 (.p 1 (.l 2 (.p 3 (.p 4 (.l 5 (.h 6 (.p 7 .nil)))))))) mixed (by decide +kernel) ?_
    (repeat (first | refine go ?_ | refine goR ?_ | refine goS (fun yc hyc => ?_) | refine goL (fun _ _ => inferInstance) ?_ | with_reducible intro _ | refine goO (by first | omega | (simp only [List.length_cons, List.length_nil]; omega)) ?_ | fail))
    have ex : (xs.drop j).take (n - j) = xs.drop j := List.take_of_length_le (by simp <;> omega)
    rw [← ex] at hK
    exact res1 Try.results42 (hK _ (Sx.nx inferInstance) inferInstance)⟩
instance ext_overlaps_cn {l u c1 k c2 : Nat} {t : TypeId} [s : SL σ B m d cnE ys] [r : Row σ A n c t cnE xs] [q : LeN k c] : ExtRule Try.prog 48 [.slice B m d, .slice (cutA cnE A l u c1) k c2] σ (.bool false) := ⟨by
  have hk := q.le
  rw [run_callFunc_extern Try.func48 (by kernel_rfl) (by kernel_rfl) (by kernel_rfl) (e := Extern.SlicesOverlaps.overlaps Try.f48.params Try.f48.resultTypes) (by kernel_rfl)]
  rw [run_overlaps _ _ (by kernel_rfl : Try.f48.params[0]? = some 35) (inferInstance : U Try.prog 35 _) (inferInstance : ElemOf Try.prog 40 cnE _) s r hk]
  rfl⟩
instance rule_Insert_cn [h : Row σ A n c 40 cnE xs] {ji : Int} {i : Nat} {k : Cn} [g : SL σ B 1 d cnE [k]] [qi : ToNat ji i] [l1 : LeN i n] :
    CallRule Try.prog 45 [.slice A n c, .int .i64 ji, .slice B 1 d] σ (fun K _ => (n < 281474976710 ∧ (n + 1) * 88 ≤ 140737488355328) ∧ ∀ σ' A' c', Nx σ σ' (.row A 40) → RowNew σ A A' → Row σ' A' (n + 1) c' 40 cnE (xs.take i ++ k :: xs.drop i) → K (.slice A' (n + 1) c') σ') := ⟨fun K E hK => by
  obtain ⟨hn, hK⟩ := hK
  have e1 := qi.eq
  subst e1
  have h1 := l1.le
  have hl := h.len
  have hle := h.le
  have hmx := h.max
  simp only [maxLen] at hmx
  haveI : BV (decide (((1 : Nat) : Int) = 0)) false := ⟨by simp⟩
  by_cases hin : i = n
  · subst hin
    haveI : BV (decide ((i : Int) = (i : Int))) true := ⟨by simp⟩
    refine calls_enter Try.func45 rfl _ Try.ntmps45 rfl ?_
    (repeat (first | refine go ?_ | refine goR ?_ | refine goS (fun yc hyc => ?_) | refine goL (fun _ _ => inferInstance) ?_ | with_reducible intro _ | refine goO (by first | omega | (simp only [List.length_cons, List.length_nil]; omega)) ?_ | fail))
    have e : xs.take i ++ k :: xs.drop i = xs ++ [k] := by
      rw [List.take_of_length_le (by omega), List.drop_of_length_le (by omega)]
    rw [e] at hK
    exact res1 Try.results45 (hK _ _ _ (Sx.nx inferInstance) (Gr.rn inferInstance) (by assumption))
  haveI : BV (decide ((i : Int) = (n : Int))) false := ⟨by simp; omega⟩
  have hlt : i < n := by omega
  haveI : IdxLt i n := ⟨hlt⟩
  haveI : LeN (i + 1) n := ⟨by omega⟩
  haveI : LeN i (n + 1) := ⟨by omega⟩
  haveI : LeN (i + 1) (n + 1) := ⟨by omega⟩
  haveI : LeN i c := ⟨by omega⟩
  haveI : Fits .i64 ((n : Int) + ((1 : Nat) : Int)) := Fits.i64 (by omega) (by omega)
  haveI : Fits .i64 ((i : Int) + ((1 : Nat) : Int)) := Fits.i64 (by omega) (by omega)
  haveI : Fits .i64 ((n : Int) + ((1 : Nat) : Int) - (i : Int)) := Fits.i64 (by omega) (by omega)
  have hx2 : xs = xs.take i ++ xs.drop i := (List.take_append_drop i xs).symm
  by_cases hc : c < n + 1
  · haveI : BV (decide ((c : Int) < (n : Int) + ((1 : Nat) : Int))) true := ⟨by simp; omega⟩
    haveI : LeN i (i + (n + 1 - i)) := ⟨by omega⟩
    haveI : LeN (i + 1) (i + (n + 1 - i)) := ⟨by omega⟩
    refine calls_enter Try.func45 rfl _ Try.ntmps45 rfl ?_
    (repeat (first | refine go ?_ | refine goR ?_ | refine goS (fun yc hyc => ?_) | refine goL (fun _ _ => inferInstance) ?_ | with_reducible intro _ | refine goO (by first | omega | (simp only [List.length_cons, List.length_nil]; omega)) ?_ | fail))
    rename_i _ _ hr1 _ _ hr2
    refine WC.draw [8] (.p 0 (.p 1 (.p 2 (.p 3 (.l 4 (.p 5 (.p 6 (.l 7 (.h 8 .nil))))))))) mixed (by decide +kernel) ?_
    (repeat (first | refine go ?_ | refine goR ?_ | refine goS (fun yc hyc => ?_) | refine goL (fun _ _ => inferInstance) ?_ | with_reducible intro _ | refine goO (by first | omega | (simp only [List.length_cons, List.length_nil]; omega)) ?_ | fail))
    have hr3 := (by assumption : Row _ _ _ _ _ _ ((_ ++ (List.take _ (List.take _ _)) ++ _).take _))
    have hN : i + (n + 1 - i) = n + 1 := by omega
    have p1 : (xs.take i).length = i := by simp; omega
    have ez : (List.take (min 1 (i + (n + 1 - i) - i)) [k]) = [k] := by rw [List.take_of_length_le (by simp <;> omega)]
    have s1 := spl_eq (xs := xs.take i ++ List.replicate (n + 1 - i) z_cnE) (p := xs.take i) (q := [z_cnE]) (r := List.replicate (n - i) z_cnE) (vs := [k]) (l := i) (n := i + (n + 1 - i)) (by rw [show n + 1 - i = n - i + 1 by omega, List.replicate_succ]; simp) p1 rfl (by simp <;> omega)
    have ed : (List.take (min (n - i) (i + (n + 1 - i) - (i + 1))) (List.take (n - i) (xs.drop i))) = xs.drop i := by
      rw [List.take_of_length_le (by simp <;> omega), List.take_of_length_le (by simp <;> omega)]
    rw [ez, s1, ed] at hr3
    have s2 := spl_eq (xs := xs.take i ++ [k] ++ List.replicate (n - i) z_cnE) (p := xs.take i ++ [k]) (q := List.replicate (n - i) z_cnE) (r := []) (vs := xs.drop i) (l := i + 1) (n := i + (n + 1 - i)) (by simp) (by simp <;> omega) (by simp <;> omega) (by simp <;> omega)
    rw [s2, hN] at hr3
    rw [List.append_nil, List.append_assoc] at hr3
    simp only [hN]
    exact res1 Try.results45 (hK _ _ _ (Sx.nx inferInstance) (Gr.rn (Gr.of_none inferInstance)) hr3)
  · haveI : BV (decide ((c : Int) < (n : Int) + ((1 : Nat) : Int))) false := ⟨by simp; omega⟩
    haveI : LeN (n + 1) c := ⟨by omega⟩
    haveI : LeN (n + 1 - (i + 1)) c := ⟨by omega⟩
    refine calls_enter Try.func45 rfl _ Try.ntmps45 rfl ?_
    (repeat (first | refine go ?_ | refine goR ?_ | refine goS (fun yc hyc => ?_) | refine goL (fun _ _ => inferInstance) ?_ | with_reducible intro _ | refine goO (by first | omega | (simp only [List.length_cons, List.length_nil]; omega)) ?_ | fail))
    refine WL.resize A (n + 1) (by omega) (fun s0 ys hn0 hr0 ht0 hl0 => ?_)
    (repeat (first | refine go ?_ | refine goR ?_ | refine goS (fun yc hyc => ?_) | refine goL (fun _ _ => inferInstance) ?_ | with_reducible intro _ | refine goO (by first | omega | (simp only [List.length_cons, List.length_nil]; omega)) ?_ | fail))
    refine WC.draw [8] (.p 0 (.p 1 (.p 2 (.p 3 (.l 4 (.p 5 (.p 6 (.l 7 (.h 8 .nil))))))))) mixed (by decide +kernel) ?_
    (repeat (first | refine go ?_ | refine goR ?_ | refine goS (fun yc hyc => ?_) | refine goL (fun _ _ => inferInstance) ?_ | with_reducible intro _ | refine goO (by first | omega | (simp only [List.length_cons, List.length_nil]; omega)) ?_ | fail))
    have hr3 := (by assumption : Row _ _ _ _ _ _ (((List.take (n + 1) _).take i ++ _ ++ _).take (n + 1)))
    obtain ⟨g, rfl⟩ : ∃ g, ys = xs ++ [g] := by
      have h1 : ys.drop n = [ys[n]!] := by
        rw [drop_cons (by omega), List.drop_of_length_le (by omega)]
      refine ⟨ys[n]!, ?_⟩
      have h2 := (List.take_append_drop n ys).symm
      rw [ht0, h1, List.take_of_length_le (by omega)] at h2
      exact h2
    have p1 : (xs.take i).length = i := by simp; omega
    have ez : (List.take (min 1 (n + 1 - i)) [k]) = [k] := by rw [List.take_of_length_le (by simp <;> omega)]
    have ed : (List.take (min (n + 1 - i) (n + 1 - (i + 1))) (List.take (n + 1 - i) ((xs ++ [g]).drop i))) = xs.drop i := by
      rw [List.take_take, List.drop_append_of_le_length (by omega), List.take_append_of_le_length (by simp <;> omega), List.take_of_length_le (by simp <;> omega)]
    have s1 := spl_eq (xs := xs ++ [g]) (p := xs.take (i + 1)) (q := (xs ++ [g]).drop (i + 1)) (r := []) (vs := xs.drop i) (l := i + 1) (n := n + 1) (by rw [List.append_nil]; have := (List.take_append_drop (i + 1) (xs ++ [g])).symm; rwa [List.take_append_of_le_length (by omega)] at this) (by simp <;> omega) (by simp <;> omega) (by simp <;> omega)
    rw [ed, s1, ez] at hr3
    have s2 := spl_eq (xs := xs.take (i + 1) ++ xs.drop i ++ []) (p := xs.take i) (q := [xs[i]!]) (r := xs.drop i) (vs := [k]) (l := i) (n := n + 1) (by rw [take_snoc (by omega)]; simp) p1 rfl (by simp <;> omega)
    rw [s2, List.append_assoc] at hr3
    exact res1 Try.results45 (hK _ _ _ (Sx.nx inferInstance) (Gr.rn inferInstance) hr3)⟩
theorem rev_mid_cn {xs zs : List Cn} {i : Nat} (hl : zs.length = xs.length) (h : ∀ k, k < xs.length → zs[k]! = if k < i ∨ xs.length - 1 - i < k then xs[xs.length - 1 - k]! else xs[k]!) (hi : xs.length ≤ 2 * i + 1) : zs = xs.reverse := by
  apply List.ext_getElem (by simp [hl])
  intro k h1 h2
  have := h k (by omega)
  rw [getElem!_pos zs k h1] at this
  rw [this, List.getElem_reverse]
  split
  · rw [getElem!_pos xs _ (by omega)]
  · rw [getElem!_pos xs k (by omega)]
    congr 1; omega
instance rule_Reverse_cn [h : Row σ A n c 40 cnE xs] : CallRule Try.prog 33 [.slice A n c] σ (fun K _ => ∀ σ', Nx σ σ' (.row A 40) → Row σ' A n c 40 cnE xs.reverse → K (.tuple #[]) σ') := ⟨fun K E hK => by
  have hl := h.len
  have hle := h.le
  have hmx := h.max
  simp only [maxLen] at hmx
  haveI : Fits .i64 ((n : Int) - 1) := Fits.i64 (by omega) (by omega)
  refine calls_enter Try.func33 rfl _ Try.ntmps33 rfl ?_
  (repeat (first | refine go ?_ | refine goR ?_ | refine goS (fun yc hyc => ?_) | refine goL (fun _ _ => inferInstance) ?_ | with_reducible intro _ | refine goO (by first | omega | (simp only [List.length_cons, List.length_nil]; omega)) ?_ | fail))
  refine WC.loopW 268435340 (.row A 40) (fun (i : Nat) f s => At f 2 (.int .i64 (i : Int)) ∧ At f 3 (.int .i64 ((n : Int) - 1 - i)) ∧ i ≤ n ∧ ∃ zs, Row s A n c 40 cnE zs ∧ zs.length = n ∧ ∀ k, k < n → zs[k]! = if k < i ∨ n - 1 - i < k then xs[n - 1 - k]! else xs[k]!) (fun i => n - i) 0
    ⟨At.to (.int .i64 0) rfl, At.to (.int .i64 ((n : Int) - 1)) (by simp), Nat.zero_le _, xs, inferInstance, hl, fun k hk => by rw [if_neg (by omega)]⟩ ?_
  rintro i f s ha hs ⟨a2, a3, hi, zs, hr, hzl, hz⟩
  by_cases hlt : i < n - 1 - i
  · obtain ⟨j, hj⟩ : ∃ j : Nat, (j : Int) = (n : Int) - 1 - i := ⟨n - 1 - i, by omega⟩
    rw [← hj] at a3
    haveI : BV (decide ((i : Int) < (j : Int))) true := ⟨by simp; omega⟩
    haveI : IdxLt i n := ⟨by omega⟩
    haveI : IdxLt j n := ⟨by omega⟩
    haveI : Fits .i64 ((i : Int) + 1) := Fits.i64 (by omega) (by omega)
    haveI : Fits .i64 ((j : Int) - 1) := Fits.i64 (by omega) (by omega)
    have hj' : j = n - 1 - i := by omega
    have hsi := hz i (by omega)
    have hsj := hz j (by omega)
    rw [if_neg (by omega)] at hsi hsj
    (repeat (first | refine go ?_ | refine goR ?_ | refine goS (fun yc hyc => ?_) | refine goL (fun _ _ => inferInstance) ?_ | with_reducible intro _ | refine goO (by first | omega | (simp only [List.length_cons, List.length_nil]; omega)) ?_ | fail))
    refine WC.draw [13, 15] (.p 0 (.p 1 (.p 2 (.p 3 (.p 4 (.p 5 (.l 6 (.l 7 (.p 8 (.p 9 (.l 10 (.l 11 (.l 12 (.h 13 (.l 14 (.h 15 .nil)))))))))))))))) mixed (by decide +kernel) ?_
    (repeat' (first | refine go ?_ | refine goR ?_ | refine goS (fun yc hyc => ?_) | refine goL (fun _ _ => inferInstance) ?_ | refine goF ?_ ?_ | with_reducible intro _ | refine goO (by first | omega | (simp only [List.length_cons, List.length_nil]; omega)) ?_ | fail))
    all_goals
      refine loop_w (i + 1) ⟨At.to (.int .i64 ((i : Int) + 1)) (by simp), At.to (.int .i64 ((j : Int) - 1)) (by simp; omega), by omega, _, inferInstance, by simp [hzl], fun k hk => ?_⟩ (by omega)
      have hk2 : k < zs.length := by omega
      rw [two_set hk2]
      by_cases e1 : j = k
      · subst e1
        simp only [if_true, if_neg (show ¬ i = j by omega)]
        rw [if_pos (by omega), hsi]; congr 1; omega
      · by_cases e2 : i = k
        · subst e2
          simp only [if_true, if_neg e1]
          rw [if_pos (by omega), hsj]; congr 1
        · simp only [if_neg e1, if_neg e2]
          rw [hz k hk]
          by_cases e3 : k < i ∨ n - 1 - i < k
          · rw [if_pos e3, if_pos (by omega)]
          · rw [if_neg e3, if_neg (by omega)]
  · haveI : BV (decide ((i : Int) < (n : Int) - 1 - i)) false := ⟨by simp; omega⟩
    have e := rev_mid_cn (xs := xs) (zs := zs) (i := i) (by omega) (by rw [hl]; exact hz) (by omega)
    rw [e] at hr
    (repeat (first | refine go ?_ | refine goR ?_ | refine goS (fun yc hyc => ?_) | refine goL (fun _ _ => inferInstance) ?_ | with_reducible intro _ | refine goO (by first | omega | (simp only [List.length_cons, List.length_nil]; omega)) ?_ | fail))
    exact resN Try.results33 (hK _ (Sx.nx inferInstance) inferInstance)⟩
instance rule_IndexFunc_cn {fv : Value} {p : Cn → Bool} [h : RdN σ A n c cnE xs] [pf : PredF Try.prog σ .no fv cnE p] {o : Option Nat} {v : Int} [q : Is (xs.findIdx? p) o] [q2 : OptI o v] :
    CallRule Try.prog 43 [.slice A n c, fv] σ (fun K _ => ∀ σ', Nx σ σ' .no → K (.int .i64 v) σ') := ⟨fun K E hK => by
  have hq := q.eq; subst hq
  have hq := q2.eq; subst hq
  have hrd := (inferInstance : Rd σ A n c cnE xs)
  have hl := hrd.len
  have hm := hrd.max
  refine calls_enter Try.func43 rfl _ Try.ntmps43 rfl ?_
  (repeat (first | refine go ?_ | refine goR ?_ | refine goS (fun yc hyc => ?_) | refine goL (fun _ _ => inferInstance) ?_ | with_reducible intro _ | refine goO (by first | omega | (simp only [List.length_cons, List.length_nil]; omega)) ?_ | fail))
  refine WC.loopW 524080 .no (fun (i : Nat) f s => At f 8 (.int .i64 (i : Int)) ∧ i ≤ n ∧ ∀ x ∈ xs.take i, p x = false) (fun i => n - i) 0 ⟨At.to (.int .i64 0) rfl, Nat.zero_le _, by simp⟩ ?_
  rintro i f s ha hs ⟨a8, hi, hf⟩
  by_cases hlt : i < n
  · haveI : BV (decide ((i : Int) < (n : Int))) true := ⟨by simpa using hlt⟩
    haveI : IdxLt i n := ⟨hlt⟩
    haveI : Fits .i64 ((i : Int) + 1) := Fits.i64 (by omega) (by omega)
    haveI : OkE s cnE xs[i]! := (inferInstance : Rd s A n c cnE xs).okAt hlt
    haveI := pf.rule s xs[i]! (Sx.nx inferInstance) inferInstance
    by_cases hc : p xs[i]! = true
    · rw [hc] at this
      (repeat (first | refine go ?_ | refine goR ?_ | refine goS (fun yc hyc => ?_) | refine goL (fun _ _ => inferInstance) ?_ | with_reducible intro _ | refine goO (by first | omega | (simp only [List.length_cons, List.length_nil]; omega)) ?_ | fail))
      rw [findIdx_at (by omega) hf hc] at hK
      exact back1 (σ0 := σ) Try.results43 (fun σ' _ _ => hK σ' inferInstance)
    · simp only [Bool.not_eq_true] at hc
      rw [hc] at this
      (repeat (first | refine go ?_ | refine goR ?_ | refine goS (fun yc hyc => ?_) | refine goL (fun _ _ => inferInstance) ?_ | with_reducible intro _ | refine goO (by first | omega | (simp only [List.length_cons, List.length_nil]; omega)) ?_ | fail))
      refine loop_w (i + 1) ⟨At.to (.int .i64 ((i : Int) + 1)) (by simp), hlt, all_take_succ (by omega) hf hc⟩ (by omega)
  · haveI : BV (decide ((i : Int) < (n : Int))) false := ⟨by simpa using hlt⟩
    (repeat (first | refine go ?_ | refine goR ?_ | refine goS (fun yc hyc => ?_) | refine goL (fun _ _ => inferInstance) ?_ | with_reducible intro _ | refine goO (by first | omega | (simp only [List.length_cons, List.length_nil]; omega)) ?_ | fail))
    rw [take_all (by omega)] at hf
    rw [findIdx_none hf] at hK
    exact back1 (σ0 := σ) Try.results43 (fun σ' _ _ => hK σ' inferInstance)⟩
end
end Go.Proofs.Ytpnbfohdfffolaa
