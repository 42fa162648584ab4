/- The library's functions on slices, at thurible/api.Key, by contract. No condition. -/
import Derived.Test.YtlcpjfeomlegpaaRn

set_option linter.all false
set_option maxHeartbeats 40000000
set_option synthInstance.maxHeartbeats 2000000
set_option synthInstance.maxSize 100000
namespace Go.Proofs.Ytlcpjfeomlegpaa
open Go Go.RowKit
section
variable {σ : St} {A B : Option Addr} {n c m d : Nat} {xs ys : List Key}
instance rule_Clone_key [h : RdN σ A n c keyE xs] : CallRule Try.prog 29 [.slice A n c] σ (fun K _ => (n * 32 ≤ 140737488355328) ∧ ∀ σ' A' c', Nx σ σ' .no → RowNew σ none A' → Row σ' A' n c' 29 keyE xs → K (.slice A' n c') σ') := ⟨fun K E hK => by
  have hrd := (inferInstance : Rd σ A n c keyE xs)
  have hl := hrd.len
  have hm := hrd.max
  obtain ⟨hn, hK⟩ := hK
  refine calls_enter Try.func29 rfl _ Try.ntmps29 rfl ?_
  (repeat (first | refine go ?_ | refine goR ?_ | refine goS (fun yc hyc => ?_) | refine goL (fun _ _ => inferInstance) ?_ | with_reducible intro _ | refine goO (by first | omega | (simp only [List.length_cons, List.length_nil]; omega)) ?_ | fail))
  refine WC.cond ?_ ?_ <;> intro hb
  · have hA : A = none := by simpa using hb
    have hn0 : n = 0 := by
      rcases hrd.rd with h0 | ⟨b, o, ha, _⟩
      · exact h0
      · rw [hA] at ha; cases ha
    have hx : xs = [] := List.eq_nil_of_length_eq_zero (by omega)
    subst hx; subst hn0
    (repeat (first | refine go ?_ | refine goR ?_ | refine goS (fun yc hyc => ?_) | refine goL (fun _ _ => inferInstance) ?_ | with_reducible intro _ | refine goO (by first | omega | (simp only [List.length_cons, List.length_nil]; omega)) ?_ | fail))
    exact res1 Try.results29 (hK _ none 0 (Sub.nx inferInstance) ⟨nofun⟩ ⟨rfl, by simp, Nat.le_refl _, Nat.zero_le _, .inl ⟨rfl, rfl⟩, nofun⟩)
  · (repeat (first | refine go ?_ | refine goR ?_ | refine goS (fun yc hyc => ?_) | refine goL (fun _ _ => inferInstance) ?_ | with_reducible intro _ | refine goO (by first | omega | (simp only [List.length_cons, List.length_nil]; omega)) ?_ | fail))
    simp only [Nat.zero_add, List.nil_append] at *
    exact res1 Try.results29 (hK _ _ _ (Sub.nx inferInstance) (Gr.rn inferInstance) (by assumption))⟩
instance rule_Delete_key [h : Row σ A n c 29 keyE xs] {ji jj : Int} {i j : Nat} [qi : ToNat ji i] [qj : ToNat jj j] [l1 : LeN i j] [l2 : LeN j n] :
    CallRule Try.prog 31 [.slice A n c, .int .i64 ji, .int .i64 jj] σ (fun K _ => (n * 32 ≤ 140737488355328) ∧ ∀ σ', Nx σ σ' (.row A 29) → Row σ' A (i + (n - j)) c 29 keyE (xs.take i ++ xs.drop j) → K (.slice A (i + (n - j)) c) σ') := ⟨fun K E hK => by
  obtain ⟨hn, hK⟩ := hK
  have e1 := qi.eq
  have e2 := qj.eq
  subst e1; subst e2
  have h1 := l1.le
  have h2 := l2.le
  have hl := h.len
  have hle := h.le
  have hmx := h.max
  simp only [maxLen] at hmx
  haveI : LeN i n := ⟨by omega⟩
  by_cases hij : i = j
  · subst hij
    haveI : BV (decide ((i : Int) = (i : Int))) true := ⟨by simp⟩
    refine calls_enter Try.func31 rfl _ Try.ntmps31 rfl ?_
    (repeat (first | refine go ?_ | refine goR ?_ | refine goS (fun yc hyc => ?_) | refine goL (fun _ _ => inferInstance) ?_ | with_reducible intro _ | refine goO (by first | omega | (simp only [List.length_cons, List.length_nil]; omega)) ?_ | fail))
    have e : i + (n - i) = n := by omega
    rw [e, List.take_append_drop] at hK
    exact res1 Try.results31 (hK _ (Sx.nx inferInstance) inferInstance)
  · haveI : BV (decide ((i : Int) = (j : Int))) false := ⟨by simp; omega⟩
    haveI : LeN i c := ⟨by omega⟩
    haveI : LeN (i + (n - j)) c := ⟨by omega⟩
    haveI : LeN (i + (n - j)) n := ⟨by omega⟩
    haveI : LeN n c := ⟨hle⟩
    refine calls_enter Try.func31 rfl _ Try.ntmps31 rfl ?_
    (repeat (first | refine go ?_ | refine goR ?_ | refine goS (fun yc hyc => ?_) | refine goL (fun _ _ => inferInstance) ?_ | with_reducible intro _ | refine goO (by first | omega | (simp only [List.length_cons, List.length_nil]; omega)) ?_ | fail))
    refine WC.draw [6] (.p 0 (.p 1 (.l 2 (.p 3 (.p 4 (.l 5 (.h 6 (.p 7 .nil)))))))) mixed (by decide +kernel) ?_
    (repeat (first | refine go ?_ | refine goR ?_ | refine goS (fun yc hyc => ?_) | refine goL (fun _ _ => inferInstance) ?_ | with_reducible intro _ | refine goO (by first | omega | (simp only [List.length_cons, List.length_nil]; omega)) ?_ | fail))
    have ex : (xs.drop j).take (n - j) = xs.drop j := List.take_of_length_le (by simp <;> omega)
    rw [← ex] at hK
    exact res1 Try.results31 (hK _ (Sx.nx inferInstance) inferInstance)⟩
instance ext_overlaps_key {l u c1 k c2 : Nat} {t : TypeId} [s : SL σ B m d keyE ys] [r : Row σ A n c t keyE xs] [q : LeN k c] : ExtRule Try.prog 41 [.slice B m d, .slice (cutA keyE A l u c1) k c2] σ (.bool false) := ⟨by
  have hk := q.le
  rw [run_callFunc_extern Try.func41 (by kernel_rfl) (by kernel_rfl) (by kernel_rfl) (e := Extern.SlicesOverlaps.overlaps Try.f41.params Try.f41.resultTypes) (by kernel_rfl)]
  rw [run_overlaps _ _ (by kernel_rfl : Try.f41.params[0]? = some 22) (inferInstance : U Try.prog 22 _) (inferInstance : ElemOf Try.prog 29 keyE _) s r hk]
  rfl⟩
instance rule_Insert_key [h : Row σ A n c 29 keyE xs] {ji : Int} {i : Nat} {k : Key} [g : SL σ B 1 d keyE [k]] [qi : ToNat ji i] [l1 : LeN i n] :
    CallRule Try.prog 30 [.slice A n c, .int .i64 ji, .slice B 1 d] σ (fun K _ => (n < 281474976710 ∧ (n + 1) * 32 ≤ 140737488355328) ∧ ∀ σ' A' c', Nx σ σ' (.row A 29) → RowNew σ A A' → Row σ' A' (n + 1) c' 29 keyE (xs.take i ++ k :: xs.drop i) → K (.slice A' (n + 1) c') σ') := ⟨fun K E hK => by
  obtain ⟨hn, hK⟩ := hK
  have e1 := qi.eq
  subst e1
  have h1 := l1.le
  have hl := h.len
  have hle := h.le
  have hmx := h.max
  simp only [maxLen] at hmx
  haveI : BV (decide (((1 : Nat) : Int) = 0)) false := ⟨by simp⟩
  by_cases hin : i = n
  · subst hin
    haveI : BV (decide ((i : Int) = (i : Int))) true := ⟨by simp⟩
    refine calls_enter Try.func30 rfl _ Try.ntmps30 rfl ?_
    (repeat (first | refine go ?_ | refine goR ?_ | refine goS (fun yc hyc => ?_) | refine goL (fun _ _ => inferInstance) ?_ | with_reducible intro _ | refine goO (by first | omega | (simp only [List.length_cons, List.length_nil]; omega)) ?_ | fail))
    have e : xs.take i ++ k :: xs.drop i = xs ++ [k] := by
      rw [List.take_of_length_le (by omega), List.drop_of_length_le (by omega)]
    rw [e] at hK
    exact res1 Try.results30 (hK _ _ _ (Sx.nx inferInstance) (Gr.rn inferInstance) (by assumption))
  haveI : BV (decide ((i : Int) = (n : Int))) false := ⟨by simp; omega⟩
  have hlt : i < n := by omega
  haveI : IdxLt i n := ⟨hlt⟩
  haveI : LeN (i + 1) n := ⟨by omega⟩
  haveI : LeN i (n + 1) := ⟨by omega⟩
  haveI : LeN (i + 1) (n + 1) := ⟨by omega⟩
  haveI : LeN i c := ⟨by omega⟩
  haveI : Fits .i64 ((n : Int) + ((1 : Nat) : Int)) := Fits.i64 (by omega) (by omega)
  haveI : Fits .i64 ((i : Int) + ((1 : Nat) : Int)) := Fits.i64 (by omega) (by omega)
  haveI : Fits .i64 ((n : Int) + ((1 : Nat) : Int) - (i : Int)) := Fits.i64 (by omega) (by omega)
  have hx2 : xs = xs.take i ++ xs.drop i := (List.take_append_drop i xs).symm
  by_cases hc : c < n + 1
  · haveI : BV (decide ((c : Int) < (n : Int) + ((1 : Nat) : Int))) true := ⟨by simp; omega⟩
    haveI : LeN i (i + (n + 1 - i)) := ⟨by omega⟩
    haveI : LeN (i + 1) (i + (n + 1 - i)) := ⟨by omega⟩
    refine calls_enter Try.func30 rfl _ Try.ntmps30 rfl ?_
    (repeat (first | refine go ?_ | refine goR ?_ | refine goS (fun yc hyc => ?_) | refine goL (fun _ _ => inferInstance) ?_ | with_reducible intro _ | refine goO (by first | omega | (simp only [List.length_cons, List.length_nil]; omega)) ?_ | fail))
    rename_i _ _ hr1 _ _ hr2
    refine WC.draw [8] (.p 0 (.p 1 (.p 2 (.p 3 (.l 4 (.p 5 (.p 6 (.l 7 (.h 8 .nil))))))))) mixed (by decide +kernel) ?_
    (repeat (first | refine go ?_ | refine goR ?_ | refine goS (fun yc hyc => ?_) | refine goL (fun _ _ => inferInstance) ?_ | with_reducible intro _ | refine goO (by first | omega | (simp only [List.length_cons, List.length_nil]; omega)) ?_ | fail))
    have hr3 := (by assumption : Row _ _ _ _ _ _ ((_ ++ (List.take _ (List.take _ _)) ++ _).take _))
    have hN : i + (n + 1 - i) = n + 1 := by omega
    have p1 : (xs.take i).length = i := by simp; omega
    have ez : (List.take (min 1 (i + (n + 1 - i) - i)) [k]) = [k] := by rw [List.take_of_length_le (by simp <;> omega)]
    have s1 := spl_eq (xs := xs.take i ++ List.replicate (n + 1 - i) key0) (p := xs.take i) (q := [key0]) (r := List.replicate (n - i) key0) (vs := [k]) (l := i) (n := i + (n + 1 - i)) (by rw [show n + 1 - i = n - i + 1 by omega, List.replicate_succ]; simp) p1 rfl (by simp <;> omega)
    have ed : (List.take (min (n - i) (i + (n + 1 - i) - (i + 1))) (List.take (n - i) (xs.drop i))) = xs.drop i := by
      rw [List.take_of_length_le (by simp <;> omega), List.take_of_length_le (by simp <;> omega)]
    rw [ez, s1, ed] at hr3
    have s2 := spl_eq (xs := xs.take i ++ [k] ++ List.replicate (n - i) key0) (p := xs.take i ++ [k]) (q := List.replicate (n - i) key0) (r := []) (vs := xs.drop i) (l := i + 1) (n := i + (n + 1 - i)) (by simp) (by simp <;> omega) (by simp <;> omega) (by simp <;> omega)
    rw [s2, hN] at hr3
    rw [List.append_nil, List.append_assoc] at hr3
    simp only [hN]
    exact res1 Try.results30 (hK _ _ _ (Sx.nx inferInstance) (Gr.rn (Gr.of_none inferInstance)) hr3)
  · haveI : BV (decide ((c : Int) < (n : Int) + ((1 : Nat) : Int))) false := ⟨by simp; omega⟩
    haveI : LeN (n + 1) c := ⟨by omega⟩
    haveI : LeN (n + 1 - (i + 1)) c := ⟨by omega⟩
    refine calls_enter Try.func30 rfl _ Try.ntmps30 rfl ?_
    (repeat (first | refine go ?_ | refine goR ?_ | refine goS (fun yc hyc => ?_) | refine goL (fun _ _ => inferInstance) ?_ | with_reducible intro _ | refine goO (by first | omega | (simp only [List.length_cons, List.length_nil]; omega)) ?_ | fail))
    refine WL.resize A (n + 1) (by omega) (fun s0 ys hn0 hr0 ht0 hl0 => ?_)
    (repeat (first | refine go ?_ | refine goR ?_ | refine goS (fun yc hyc => ?_) | refine goL (fun _ _ => inferInstance) ?_ | with_reducible intro _ | refine goO (by first | omega | (simp only [List.length_cons, List.length_nil]; omega)) ?_ | fail))
    refine WC.draw [8] (.p 0 (.p 1 (.p 2 (.p 3 (.l 4 (.p 5 (.p 6 (.l 7 (.h 8 .nil))))))))) mixed (by decide +kernel) ?_
    (repeat (first | refine go ?_ | refine goR ?_ | refine goS (fun yc hyc => ?_) | refine goL (fun _ _ => inferInstance) ?_ | with_reducible intro _ | refine goO (by first | omega | (simp only [List.length_cons, List.length_nil]; omega)) ?_ | fail))
    have hr3 := (by assumption : Row _ _ _ _ _ _ (((List.take (n + 1) _).take i ++ _ ++ _).take (n + 1)))
    obtain ⟨g, rfl⟩ : ∃ g, ys = xs ++ [g] := by
      have h1 : ys.drop n = [ys[n]!] := by
        rw [drop_cons (by omega), List.drop_of_length_le (by omega)]
      refine ⟨ys[n]!, ?_⟩
      have h2 := (List.take_append_drop n ys).symm
      rw [ht0, h1, List.take_of_length_le (by omega)] at h2
      exact h2
    have p1 : (xs.take i).length = i := by simp; omega
    have ez : (List.take (min 1 (n + 1 - i)) [k]) = [k] := by rw [List.take_of_length_le (by simp <;> omega)]
    have ed : (List.take (min (n + 1 - i) (n + 1 - (i + 1))) (List.take (n + 1 - i) ((xs ++ [g]).drop i))) = xs.drop i := by
      rw [List.take_take, List.drop_append_of_le_length (by omega), List.take_append_of_le_length (by simp <;> omega), List.take_of_length_le (by simp <;> omega)]
    have s1 := spl_eq (xs := xs ++ [g]) (p := xs.take (i + 1)) (q := (xs ++ [g]).drop (i + 1)) (r := []) (vs := xs.drop i) (l := i + 1) (n := n + 1) (by rw [List.append_nil]; have := (List.take_append_drop (i + 1) (xs ++ [g])).symm; rwa [List.take_append_of_le_length (by omega)] at this) (by simp <;> omega) (by simp <;> omega) (by simp <;> omega)
    rw [ed, s1, ez] at hr3
    have s2 := spl_eq (xs := xs.take (i + 1) ++ xs.drop i ++ []) (p := xs.take i) (q := [xs[i]!]) (r := xs.drop i) (vs := [k]) (l := i) (n := n + 1) (by rw [take_snoc (by omega)]; simp) p1 rfl (by simp <;> omega)
    rw [s2, List.append_assoc] at hr3
    exact res1 Try.results30 (hK _ _ _ (Sx.nx inferInstance) (Gr.rn inferInstance) hr3)⟩
instance rule_IsSorted_key {fv : Value} {r : Key → Key → Int} [h : RdN σ A n c keyE xs] [cf : CmpF Try.prog fv keyE r] [w : Weak r] {bb : Bool} [q : BV (decide (Srt r xs)) bb] :
    CallRule Try.prog 35 [.slice A n c, fv] σ (fun K _ => ∀ σ', Nx σ σ' .no → K (.bool bb) σ') := ⟨fun K E hK => by
  have hq := q.eq; subst hq
  have hrd := (inferInstance : Rd σ A n c keyE xs)
  have hl := hrd.len
  have hm := hrd.max
  haveI : Fits .i64 ((n : Int) - 1) := Fits.i64 (by omega) (by omega)
  refine calls_enter Try.func35 rfl _ Try.ntmps35 rfl ?_
  (repeat (first | refine go ?_ | refine goR ?_ | refine goS (fun yc hyc => ?_) | refine goL (fun _ _ => inferInstance) ?_ | with_reducible intro _ | refine goO (by first | omega | (simp only [List.length_cons, List.length_nil]; omega)) ?_ | fail))
  refine WC.loopW 33553968 .no (fun (j : Int) f s => At f 5 (.int .i64 j) ∧ j < n ∧ -1 ≤ j ∧ ∀ i : Nat, j < (i : Int) → 0 < i → i < n → ¬ r xs[i]! xs[i - 1]! < 0) (fun j => (j + 1).toNat) ((n : Int) - 1) ⟨inferInstance, by omega, by omega, fun i h1 h2 h3 => by omega⟩ ?_
  rintro j f s ha hs ⟨a5, hj, hj1, hd⟩
  by_cases hpos : 0 < j
  · obtain ⟨i, rfl⟩ : ∃ i : Nat, j = (i : Int) := ⟨j.toNat, by omega⟩
    haveI : BV (decide (0 < (i : Int))) true := ⟨by simpa using hpos⟩
    haveI : IdxLt i n := ⟨by omega⟩
    haveI : IdxLt (i - 1) n := ⟨by omega⟩
    haveI : LeN 1 i := ⟨by omega⟩
    haveI : Fits .i64 ((i : Int) - 1) := Fits.i64 (by omega) (by omega)
    (repeat (first | refine go ?_ | refine goR ?_ | refine goS (fun yc hyc => ?_) | refine goL (fun _ _ => inferInstance) ?_ | with_reducible intro _ | refine goO (by first | omega | (simp only [List.length_cons, List.length_nil]; omega)) ?_ | fail))
    refine WC.draw [] (.p 0 (.p 1 (.p 2 (.l 3 (.l 4 (.p 5 (.p 6 (.p 7 (.l 8 (.l 9 (.h 10 (.p 11 .nil)))))))))))) mixed (by decide +kernel) ?_
    by_cases hc : r xs[i]! xs[i - 1]! < 0
    · haveI : BV (decide (r xs[i]! xs[i - 1]! < 0)) true := ⟨by simpa using hc⟩
      (repeat (first | refine go ?_ | refine goR ?_ | refine goS (fun yc hyc => ?_) | refine goL (fun _ _ => inferInstance) ?_ | with_reducible intro _ | refine goO (by first | omega | (simp only [List.length_cons, List.length_nil]; omega)) ?_ | fail))
      have : ¬ Srt r xs := fun hs => srt_adj' hs (by omega) (by omega) hc
      simp only [this, decide_false] at hK
      exact back1 (σ0 := σ) Try.results35 (fun σ' _ _ => hK σ' inferInstance)
    · haveI : BV (decide (r xs[i]! xs[i - 1]! < 0)) false := ⟨by simpa using hc⟩
      (repeat (first | refine go ?_ | refine goR ?_ | refine goS (fun yc hyc => ?_) | refine goL (fun _ _ => inferInstance) ?_ | with_reducible intro _ | refine goO (by first | omega | (simp only [List.length_cons, List.length_nil]; omega)) ?_ | fail))
      refine loop_w ((i : Int) - 1) ⟨inferInstance, by omega, by omega, fun k h1 h2 h3 => ?_⟩ (by omega)
      by_cases e : k = i
      · subst e; exact hc
      · exact hd k (by omega) h2 h3
  · haveI : BV (decide (0 < j)) false := ⟨by simpa using hpos⟩
    (repeat (first | refine go ?_ | refine goR ?_ | refine goS (fun yc hyc => ?_) | refine goL (fun _ _ => inferInstance) ?_ | with_reducible intro _ | refine goO (by first | omega | (simp only [List.length_cons, List.length_nil]; omega)) ?_ | fail))
    have : Srt r xs := srt_of_adj fun i h1 h2 => hd i (by omega) h1 (by omega)
    simp only [this, decide_true] at hK
    exact back1 (σ0 := σ) Try.results35 (fun σ' _ _ => hK σ' inferInstance)⟩
instance rule_Search_key {fv : Value} {r : Key → Key → Int} {t : Key} {tv : Value} [h : RdN σ A n c keyE xs] [et : EncV σ keyE tv t] [cf : CmpF Try.prog fv keyE r] [w : Weak r] {k : Nat} {bb : Bool} [q1 : Is (lowI r xs t) k] [q2 : BV (decide (k < n ∧ r xs[k]! t = 0)) bb] :
    CallRule Try.prog 36 [.slice A n c, tv, fv] σ (fun K _ => (n ≤ 4611686018427387903 ∧ Srt r xs) ∧ ∀ σ', Nx σ σ' .no → K (.tuple #[.int .i64 (k : Int), .bool bb]) σ') := ⟨fun K E hK => by
  have hq := q1.eq; subst hq
  have hq := q2.eq; subst hq
  have hv := et.eq
  subst hv
  obtain ⟨⟨hn, hsr⟩, hK⟩ := hK
  have hrd := (inferInstance : Rd σ A n c keyE xs)
  have hl := hrd.len
  have hm := hrd.max
  refine calls_enter Try.func36 rfl _ Try.ntmps36 rfl ?_
  (repeat (first | refine go ?_ | refine goR ?_ | refine goS (fun yc hyc => ?_) | refine goL (fun _ _ => inferInstance) ?_ | with_reducible intro _ | refine goO (by first | omega | (simp only [List.length_cons, List.length_nil]; omega)) ?_ | fail))
  rename_i s0 b0 hn0 hnew hown
  refine WC.loopW 34359709184 .no (fun (ij : Nat × Nat) f s => At f 9 (.int .i64 (ij.1 : Int)) ∧ At f 10 (.int .i64 (ij.2 : Int)) ∧ ij.1 ≤ ij.2 ∧ ij.2 ≤ n ∧ (∀ k, k < ij.1 → r xs[k]! t < 0) ∧ (ij.2 < n → ¬ r xs[ij.2]! t < 0)) (fun ij => ij.2 - ij.1) (0, n)
    ⟨At.to (.int .i64 0) rfl, inferInstance, Nat.zero_le _, Nat.le_refl _, fun k hk => by omega, fun h => by omega⟩ ?_
  rintro ⟨i, j⟩ f s ha hs ⟨a9, a10, hij, hjn, hlo, hhi⟩
  simp only at a9 a10 hij hjn hlo hhi
  by_cases hlt : i < j
  · haveI : BV (decide ((i : Int) < (j : Int))) true := ⟨by simpa using hlt⟩
    haveI : Fits .i64 ((i : Int) + (j : Int)) := Fits.i64 (by omega) (by omega)
    haveI : Fits .u64 ((i : Int) + (j : Int)) := Fits.u64 (by omega) (by omega)
    haveI : Fits .i64 ((((i + j) / 2 : Nat) : Int)) := Fits.i64 (by omega) (by omega)
    haveI : Fits .i64 ((((i + j) / 2 : Nat) : Int) + 1) := Fits.i64 (by omega) (by omega)
    haveI : IdxLt ((i + j) / 2) n := ⟨by omega⟩
    (repeat (first | refine go ?_ | refine goR ?_ | refine goS (fun yc hyc => ?_) | refine goL (fun _ _ => inferInstance) ?_ | with_reducible intro _ | refine goO (by first | omega | (simp only [List.length_cons, List.length_nil]; omega)) ?_ | fail))
    refine WC.draw [] (.p 0 (.p 1 (.p 2 (.l 3 (.l 4 (.l 5 (.h 6 (.p 7 .nil)))))))) mixed (by decide +kernel) ?_
    by_cases hc : r xs[(i + j) / 2]! t < 0
    · haveI : BV (decide (r xs[(i + j) / 2]! t < 0)) true := ⟨by simpa using hc⟩
      (repeat (first | refine go ?_ | refine goR ?_ | refine goS (fun yc hyc => ?_) | refine goL (fun _ _ => inferInstance) ?_ | with_reducible intro _ | refine goO (by first | omega | (simp only [List.length_cons, List.length_nil]; omega)) ?_ | fail))
      refine loop_w ((i + j) / 2 + 1, j) ⟨At.to (.int .i64 ((((i + j) / 2 : Nat) : Int) + 1)) (by simp), inferInstance, by simp only; omega, hjn, fun k hk => ?_, hhi⟩ (by simp only; omega)
      exact srt_mono hsr (by simp only at hk; omega) (by omega) hc
    · haveI : BV (decide (r xs[(i + j) / 2]! t < 0)) false := ⟨by simpa using hc⟩
      (repeat (first | refine go ?_ | refine goR ?_ | refine goS (fun yc hyc => ?_) | refine goL (fun _ _ => inferInstance) ?_ | with_reducible intro _ | refine goO (by first | omega | (simp only [List.length_cons, List.length_nil]; omega)) ?_ | fail))
      refine loop_w (i, (i + j) / 2) ⟨inferInstance, inferInstance, by simp only; omega, by simp only; omega, hlo, fun _ => hc⟩ (by simp only; omega)
  · haveI : BV (decide ((i : Int) < (j : Int))) false := ⟨by simpa using hlt⟩
    have e : i = j := by omega
    subst e
    have hlow : lowI r xs t = i := lowI_of (by omega) hlo (fun h => hhi (by omega))
    rw [hlow] at hK
    by_cases hin : i < n
    · haveI : BV (decide ((i : Int) < (n : Int))) true := ⟨by simpa using hin⟩
      haveI : IdxLt i n := ⟨hin⟩
      (repeat (first | refine go ?_ | refine goR ?_ | refine goS (fun yc hyc => ?_) | refine goL (fun _ _ => inferInstance) ?_ | with_reducible intro _ | refine goO (by first | omega | (simp only [List.length_cons, List.length_nil]; omega)) ?_ | fail))
      refine WC.draw [] (.p 0 (.p 1 (.p 2 (.p 3 (.p 4 (.p 5 (.p 6 (.p 7 (.l 8 (.l 9 (.l 10 (.h 11 (.p 12 (.p 13 (.p 14 (.p 15 .nil)))))))))))))))) mixed (by decide +kernel) ?_
      (repeat (first | refine go ?_ | refine goR ?_ | refine goS (fun yc hyc => ?_) | refine goL (fun _ _ => inferInstance) ?_ | with_reducible intro _ | refine goO (by first | omega | (simp only [List.length_cons, List.length_nil]; omega)) ?_ | fail))
      refine back2 (σ0 := σ) Try.results36 (fun σ' _ _ => ?_)
      have := hK σ' inferInstance
      simpa [hin] using this
    · haveI : BV (decide ((i : Int) < (n : Int))) false := ⟨by simpa using hin⟩
      (repeat (first | refine go ?_ | refine goR ?_ | refine goS (fun yc hyc => ?_) | refine goL (fun _ _ => inferInstance) ?_ | with_reducible intro _ | refine goO (by first | omega | (simp only [List.length_cons, List.length_nil]; omega)) ?_ | fail))
      refine WC.draw [] (.p 0 (.p 1 (.p 2 (.p 3 (.p 4 (.p 5 (.p 6 (.p 7 (.l 8 (.l 9 (.l 10 (.h 11 (.p 12 (.p 13 (.p 14 (.p 15 .nil)))))))))))))))) mixed (by decide +kernel) ?_
      (repeat (first | refine go ?_ | refine goR ?_ | refine goS (fun yc hyc => ?_) | refine goL (fun _ _ => inferInstance) ?_ | with_reducible intro _ | refine goO (by first | omega | (simp only [List.length_cons, List.length_nil]; omega)) ?_ | fail))
      refine back2 (σ0 := σ) Try.results36 (fun σ' _ _ => ?_)
      have := hK σ' inferInstance
      simpa [hin] using this⟩
instance rule_Index_key {k : Key} {kv : Value} [h : RdN σ A n c keyE xs] [ek : EncV σ keyE kv k] {o : Option Nat} {v : Int} [q : Is (xs.findIdx? fun x => decide (x = k)) o] [q2 : OptI o v] :
    CallRule Try.prog 37 [.slice A n c, kv] σ (fun K _ => ∀ σ', Nx σ σ' .no → K (.int .i64 v) σ') := ⟨fun K E hK => by
  have hq := q.eq; subst hq
  have hq := q2.eq; subst hq
  have hv := ek.eq
  subst hv
  have hrd := (inferInstance : Rd σ A n c keyE xs)
  have hl := hrd.len
  have hm := hrd.max
  refine calls_enter Try.func37 rfl _ Try.ntmps37 rfl ?_
  (repeat (first | refine go ?_ | refine goR ?_ | refine goS (fun yc hyc => ?_) | refine goL (fun _ _ => inferInstance) ?_ | with_reducible intro _ | refine goO (by first | omega | (simp only [List.length_cons, List.length_nil]; omega)) ?_ | fail))
  refine WC.loopW 524080 .no (fun (i : Nat) f s => At f 8 (.int .i64 (i : Int)) ∧ i ≤ n ∧ ∀ x ∈ xs.take i, decide (x = k) = false) (fun i => n - i) 0 ⟨At.to (.int .i64 0) rfl, Nat.zero_le _, by simp⟩ ?_
  rintro i f s ha hs ⟨a8, hi, hf⟩
  by_cases hlt : i < n
  · haveI : BV (decide ((i : Int) < (n : Int))) true := ⟨by simpa using hlt⟩
    haveI : IdxLt i n := ⟨hlt⟩
    haveI : Fits .i64 ((i : Int) + 1) := Fits.i64 (by omega) (by omega)
    by_cases hc : k = xs[i]!
    · haveI : BV (decide (k = xs[i]!)) true := ⟨by simpa using hc⟩
      (repeat (first | refine go ?_ | refine goR ?_ | refine goS (fun yc hyc => ?_) | refine goL (fun _ _ => inferInstance) ?_ | with_reducible intro _ | refine goO (by first | omega | (simp only [List.length_cons, List.length_nil]; omega)) ?_ | fail))
      refine WC.draw [] (.l 0 (.p 1 (.p 2 (.l 3 (.l 4 (.p 5 .nil)))))) mixed (by decide +kernel) ?_
      (repeat (first | refine go ?_ | refine goR ?_ | refine goS (fun yc hyc => ?_) | refine goL (fun _ _ => inferInstance) ?_ | with_reducible intro _ | refine goO (by first | omega | (simp only [List.length_cons, List.length_nil]; omega)) ?_ | fail))
      rw [findIdx_at (by omega) hf (by simp [hc])] at hK
      exact back1 (σ0 := σ) Try.results37 (fun σ' _ _ => hK σ' inferInstance)
    · haveI : BV (decide (k = xs[i]!)) false := ⟨by simpa using hc⟩
      (repeat (first | refine go ?_ | refine goR ?_ | refine goS (fun yc hyc => ?_) | refine goL (fun _ _ => inferInstance) ?_ | with_reducible intro _ | refine goO (by first | omega | (simp only [List.length_cons, List.length_nil]; omega)) ?_ | fail))
      refine WC.draw [] (.l 0 (.p 1 (.p 2 (.l 3 (.l 4 (.p 5 .nil)))))) mixed (by decide +kernel) ?_
      (repeat (first | refine go ?_ | refine goR ?_ | refine goS (fun yc hyc => ?_) | refine goL (fun _ _ => inferInstance) ?_ | with_reducible intro _ | refine goO (by first | omega | (simp only [List.length_cons, List.length_nil]; omega)) ?_ | fail))
      refine loop_w (i + 1) ⟨At.to (.int .i64 ((i : Int) + 1)) (by simp), hlt, all_take_succ (by omega) hf (by simpa using Ne.symm hc)⟩ (by omega)
  · haveI : BV (decide ((i : Int) < (n : Int))) false := ⟨by simpa using hlt⟩
    (repeat (first | refine go ?_ | refine goR ?_ | refine goS (fun yc hyc => ?_) | refine goL (fun _ _ => inferInstance) ?_ | with_reducible intro _ | refine goO (by first | omega | (simp only [List.length_cons, List.length_nil]; omega)) ?_ | fail))
    rw [take_all (by omega)] at hf
    rw [findIdx_none hf] at hK
    exact back1 (σ0 := σ) Try.results37 (fun σ' _ _ => hK σ' inferInstance)⟩
instance rule_IndexFunc_key {fv : Value} {p : Key → Bool} [h : RdN σ A n c keyE xs] [pf : PredF Try.prog σ .no fv keyE p] {o : Option Nat} {v : Int} [q : Is (xs.findIdx? p) o] [q2 : OptI o v] :
    CallRule Try.prog 40 [.slice A n c, fv] σ (fun K _ => ∀ σ', Nx σ σ' .no → K (.int .i64 v) σ') := ⟨fun K E hK => by
  have hq := q.eq; subst hq
  have hq := q2.eq; subst hq
  have hrd := (inferInstance : Rd σ A n c keyE xs)
  have hl := hrd.len
  have hm := hrd.max
  refine calls_enter Try.func40 rfl _ Try.ntmps40 rfl ?_
  (repeat (first | refine go ?_ | refine goR ?_ | refine goS (fun yc hyc => ?_) | refine goL (fun _ _ => inferInstance) ?_ | with_reducible intro _ | refine goO (by first | omega | (simp only [List.length_cons, List.length_nil]; omega)) ?_ | fail))
  refine WC.loopW 524080 .no (fun (i : Nat) f s => At f 8 (.int .i64 (i : Int)) ∧ i ≤ n ∧ ∀ x ∈ xs.take i, p x = false) (fun i => n - i) 0 ⟨At.to (.int .i64 0) rfl, Nat.zero_le _, by simp⟩ ?_
  rintro i f s ha hs ⟨a8, hi, hf⟩
  by_cases hlt : i < n
  · haveI : BV (decide ((i : Int) < (n : Int))) true := ⟨by simpa using hlt⟩
    haveI : IdxLt i n := ⟨hlt⟩
    haveI : Fits .i64 ((i : Int) + 1) := Fits.i64 (by omega) (by omega)
    haveI : OkE s keyE xs[i]! := (inferInstance : Rd s A n c keyE xs).okAt hlt
    haveI := pf.rule s xs[i]! (Sx.nx inferInstance) inferInstance
    by_cases hc : p xs[i]! = true
    · rw [hc] at this
      (repeat (first | refine go ?_ | refine goR ?_ | refine goS (fun yc hyc => ?_) | refine goL (fun _ _ => inferInstance) ?_ | with_reducible intro _ | refine goO (by first | omega | (simp only [List.length_cons, List.length_nil]; omega)) ?_ | fail))
      rw [findIdx_at (by omega) hf hc] at hK
      exact back1 (σ0 := σ) Try.results40 (fun σ' _ _ => hK σ' inferInstance)
    · simp only [Bool.not_eq_true] at hc
      rw [hc] at this
      (repeat (first | refine go ?_ | refine goR ?_ | refine goS (fun yc hyc => ?_) | refine goL (fun _ _ => inferInstance) ?_ | with_reducible intro _ | refine goO (by first | omega | (simp only [List.length_cons, List.length_nil]; omega)) ?_ | fail))
      refine loop_w (i + 1) ⟨At.to (.int .i64 ((i : Int) + 1)) (by simp), hlt, all_take_succ (by omega) hf hc⟩ (by omega)
  · haveI : BV (decide ((i : Int) < (n : Int))) false := ⟨by simpa using hlt⟩
    (repeat (first | refine go ?_ | refine goR ?_ | refine goS (fun yc hyc => ?_) | refine goL (fun _ _ => inferInstance) ?_ | with_reducible intro _ | refine goO (by first | omega | (simp only [List.length_cons, List.length_nil]; omega)) ?_ | fail))
    rw [take_all (by omega)] at hf
    rw [findIdx_none hf] at hK
    exact back1 (σ0 := σ) Try.results40 (fun σ' _ _ => hK σ' inferInstance)⟩
end
end Go.Proofs.Ytlcpjfeomlegpaa
