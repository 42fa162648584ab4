/- The laws KeysTells and KeysTwice, by contract. No condition. -/
import Derived.Test.YtlidbnmdhnfolaaK5
import Derived.Test.YtlidbnmdhnfolaaLa
set_option linter.all false
set_option maxHeartbeats 40000000
set_option synthInstance.maxHeartbeats 2000000
set_option synthInstance.maxSize 100000
namespace Go.Proofs.Ytlidbnmdhnfolaa
open Go Go.RowKit
theorem has_insK (l : List Key) (k : Key) : hasK (insK l k) k = true := by
  unfold insK
  split
  · assumption
  · rw [hasK_iff, (kput_perm l k).mem_iff]; simp
theorem dist_insK {l : List Key} (k : Key) (h : distK l = true) : distK (insK l k) = true := by
  unfold insK
  cases hh : hasK l k with
  | true => simpa using h
  | false =>
    unfold distK at *
    simp only [Bool.false_eq_true, if_false, decide_eq_true_eq] at *
    rw [(kput_perm l k).nodup_iff, List.nodup_cons]
    refine ⟨fun hm => ?_, h⟩
    rw [← hasK_iff, hh] at hm; cases hm
theorem insK_insK (l : List Key) (k : Key) : insK (insK l k) k = insK l k := by
  show (if hasK (insK l k) k then insK l k else kput (insK l k) k) = insK l k
  rw [if_pos (has_insK l k)]
theorem len_remK : ∀ (l : List Key) (k : Key), hasK l k = true → (remK l k).length + 1 = l.length
  | [], k, h => by simp [hasK] at h
  | x :: l, k, h => by
    unfold remK
    by_cases e : x = k
    · simp [e]
    · have h2 : hasK l k = true := by simpa [hasK, e] using h
      rw [if_neg e, List.length_cons, List.length_cons, len_remK l k h2]
theorem len_remK_le (l : List Key) (k : Key) : (remK l k).length ≤ l.length := by
  cases h : hasK l k with
  | true => have := len_remK l k h; omega
  | false => rw [remK_not l k h]; exact Nat.le_refl _
theorem mem_remK_of {l : List Key} {k x : Key} (h : x ∈ remK l k) : x ∈ l := by
  induction l with
  | nil => exact h
  | cons y l ih =>
    unfold remK at h
    split at h
    · exact List.mem_cons_of_mem _ h
    · rcases List.mem_cons.1 h with rfl | h
      · exact List.mem_cons_self
      · exact List.mem_cons_of_mem _ (ih h)
theorem has_remK {l : List Key} {k : Key} (h : distK l = true) : hasK (remK l k) k = false := by
  rw [Bool.eq_false_iff, ne_eq, hasK_iff]
  unfold distK at h
  simp only [decide_eq_true_eq] at h
  induction l with
  | nil => simp [remK]
  | cons y l ih =>
    rw [List.nodup_cons] at h
    unfold remK
    split
    · rename_i e; subst e; exact h.1
    · rename_i e
      intro hm
      rcases List.mem_cons.1 hm with rfl | hm
      · exact e rfl
      · exact ih h.2 hm
theorem dist_remK {l : List Key} {k : Key} (h : distK l = true) : distK (remK l k) = true := by
  unfold distK at *
  simp only [decide_eq_true_eq] at *
  induction l with
  | nil => exact h
  | cons y l ih =>
    rw [List.nodup_cons] at h
    unfold remK
    split
    · exact h.2
    · rw [List.nodup_cons]; exact ⟨fun hm => h.1 (mem_remK_of hm), ih h.2⟩
theorem len_insK (l : List Key) (k : Key) : (insK l k).length ≤ l.length + 1 := by
  unfold insK
  split
  · omega
  · rw [(kput_perm l k).length_eq]; simp
section
variable {σ : St} {A B : Option Addr} {n c m d : Nat} {xs ys : List Key} {a b k : Key}
instance rule_KeysTells [h : SL σ A n c keyE xs] [g : SL σ B m d keyE ys] : CallRule Try.prog 9 [.agg (kc a), .agg (kc b), .slice A n c, .slice B m d] σ (fun K _ => ∀ σ', Nx σ σ' .no → K (.bool true) σ') := ⟨fun K E hK => by
  by_cases hn : 200 < n
  · haveI : BV (decide ((200 : Int) < (n : Int))) true := ⟨by simp; omega⟩
    refine calls_enter Try.func9 rfl _ Try.ntmps9 rfl ?_
    (repeat (first | refine go ?_ | refine goR ?_ | refine goS (fun yc hyc => ?_) | refine goL (fun _ _ => inferInstance) ?_ | with_reducible intro _ | refine goO (by omega) ?_ | fail))
    exact back1 (σ0 := σ) Try.results9 (fun σ' _ _ => hK σ' inferInstance)
  haveI : BV (decide ((200 : Int) < (n : Int))) false := ⟨by simp; omega⟩
  by_cases hm : 200 < m
  · haveI : BV (decide ((200 : Int) < (m : Int))) true := ⟨by simp; omega⟩
    refine calls_enter Try.func9 rfl _ Try.ntmps9 rfl ?_
    (repeat (first | refine go ?_ | refine goR ?_ | refine goS (fun yc hyc => ?_) | refine goL (fun _ _ => inferInstance) ?_ | with_reducible intro _ | refine goO (by omega) ?_ | fail))
    exact back1 (σ0 := σ) Try.results9 (fun σ' _ _ => hK σ' inferInstance)
  haveI : BV (decide ((200 : Int) < (m : Int))) false := ⟨by simp; omega⟩
  refine calls_enter Try.func9 rfl _ Try.ntmps9 rfl ?_
  (repeat (first | refine go ?_ | refine goR ?_ | refine goS (fun yc hyc => ?_) | refine goL (fun _ _ => inferInstance) ?_ | with_reducible intro _ | refine goO (by omega) ?_ | fail))
  refine WC.draw [] (.l 0 (.l 1 (.l 3 (.l 4 (.h 2 (.h 5 (.p 6 (.p 7 (.p 8 (.p 10 (.h 9 (.h 11 (.h 12 (.p 13 (.p 14 (.p 15 (.p 17 (.h 16 (.h 18 (.p 19 (.p 20 (.p 21 (.p 22 (.l 23 (.p 25 (.l 26 (.h 24 (.h 27 (.p 28 (.p 29 (.p 30 (.p 31 (.p 32 (.p 34 (.p 35 (.h 33 (.h 36 (.p 37 (.p 38 (.p 39 (.p 40 (.p 41 (.h 42 (.p 43 (.p 44 (.p 45 (.p 46 (.p 47 (.p 48 (.p 49 (.p 50 (.p 51 (.h 52 (.p 53 (.p 54 (.p 55 (.p 56 (.p 57 (.p 58 (.p 59 .nil)))))))))))))))))))))))))))))))))))))))))))))))))))))))))))) mixed (by decide +kernel) ?_
  (repeat (first | refine go ?_ | refine goR ?_ | refine goS (fun yc hyc => ?_) | refine goL (fun _ _ => inferInstance) ?_ | with_reducible intro _ | refine goO (by omega) ?_ | fail))
  exact back1 (σ0 := σ) Try.results9 (fun σ' _ _ => hK σ' inferInstance)⟩
instance rule_KeysTwice [h : SL σ A n c keyE xs] : CallRule Try.prog 8 [.slice A n c, .agg (kc k)] σ (fun K _ => ∀ σ', Nx σ σ' .no → K (.bool true) σ') := ⟨fun K E hK => by
  have hl := h.len
  by_cases hn : 200 < n
  · haveI : BV (decide ((200 : Int) < (n : Int))) true := ⟨by simp; omega⟩
    refine calls_enter Try.func8 rfl _ Try.ntmps8 rfl ?_
    (repeat (first | refine go ?_ | refine goR ?_ | refine goS (fun yc hyc => ?_) | refine goL (fun _ _ => inferInstance) ?_ | with_reducible intro _ | refine goO (by omega) ?_ | fail))
    exact back1 (σ0 := σ) Try.results8 (fun σ' _ _ => hK σ' inferInstance)
  haveI : BV (decide ((200 : Int) < (n : Int))) false := ⟨by simp; omega⟩
  refine calls_enter Try.func8 rfl _ Try.ntmps8 rfl ?_
  (repeat (first | refine go ?_ | refine goR ?_ | refine goS (fun yc hyc => ?_) | refine goL (fun _ _ => inferInstance) ?_ | with_reducible intro _ | refine goO (by omega) ?_ | fail))
  rename Option Addr => A0
  refine WC.freeze A0 (fun s1 hn1 hs1 => ?_)
  haveI := Sub.nx (σ0 := σ) (inferInstance : Sub σ s1)
  refine WC.loopW 4397979402720 .no (fun (i : Nat) f s => At f 6 (.int .i64 (i : Int)) ∧ i ≤ n ∧ ∃ A1 c1 ys, At f 5 (.slice A1 ys.length c1) ∧ SL s A1 ys.length c1 keyE ys ∧ distK ys = true ∧ ys.length ≤ i) (fun i => n - i) 0
    ⟨At.to (.int .i64 0) rfl, Nat.zero_le _, A0, 0, [], inferInstance, inferInstance, rfl, Nat.le_refl _⟩ ?_
  rintro i f s ha hs ⟨a6, hi, A1, c1, ys, a5, hr, hd, hyl⟩
  by_cases hlt : i < n
  · haveI : BV (decide ((i : Int) < (n : Int))) true := ⟨by simpa using hlt⟩
    haveI : IdxLt i n := ⟨hlt⟩
    haveI : Fits .i64 ((i : Int) + 1) := Fits.i64 (by omega) (by omega)
    (repeat (first | refine go ?_ | refine goR ?_ | refine goS (fun yc hyc => ?_) | refine goL (fun _ _ => inferInstance) ?_ | with_reducible intro _ | refine goO (by omega) ?_ | fail))
    refine loop_w (i + 1) ⟨At.to (.int .i64 ((i : Int) + 1)) (by simp), hlt, _, _, insK ys xs[i]!, inferInstance, inferInstance, dist_insK _ hd, ?_⟩ (by omega)
    have := len_insK ys xs[i]!
    omega
  · haveI : BV (decide ((i : Int) < (n : Int))) false := ⟨by simpa using hlt⟩
    have hd2 := dist_insK k hd
    have hl2 := len_insK ys k
    have hl3 := len_remK _ _ (has_insK ys k)
    have hl4 := len_remK_le (remK (insK ys k) k) k
    haveI : Is (insK (insK ys k) k) (insK ys k) := ⟨insK_insK ys k⟩
    haveI : BV (hasK (insK ys k) k) true := ⟨has_insK ys k⟩
    haveI : BV (hasK (remK (insK ys k) k) k) false := ⟨has_remK hd2⟩
    haveI : BV (distK (insK ys k)) true := ⟨hd2⟩
    haveI : Fits .i64 (((insK ys k).length : Int) - 1) := Fits.i64 (by omega) (by omega)
    haveI : BV (decide (((remK (insK ys k) k).length : Int) = ((insK ys k).length : Int) - 1)) true := ⟨by simp; omega⟩
    (repeat (first | refine go ?_ | refine goR ?_ | refine goS (fun yc hyc => ?_) | refine goL (fun _ _ => inferInstance) ?_ | with_reducible intro _ | refine goO (by omega) ?_ | fail))
    exact back1 (σ0 := σ) Try.results8 (fun σ' _ _ => hK σ' inferInstance)⟩
end
end Go.Proofs.Ytlidbnmdhnfolaa
