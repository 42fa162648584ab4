/- The law KeysSorts, by contract. No condition. -/
import Derived.Test.YtlidbnmdhnfolaaK3
import Derived.Test.YtlidbnmdhnfolaaLa
set_option linter.all false
set_option maxHeartbeats 40000000
set_option synthInstance.maxHeartbeats 2000000
set_option synthInstance.maxSize 100000
namespace Go.Proofs.Ytlidbnmdhnfolaa
open Go Go.RowKit
/-- a list, read from place d on, round its end -/
def turnK (l : List Key) (d : Nat) (i : Nat) : List Key := (List.range i).map fun j => l[(j + d) % l.length]!
theorem turnK_succ (l : List Key) (d i : Nat) : turnK l d (i + 1) = turnK l d i ++ [l[(i + d) % l.length]!] := by
  simp [turnK, List.range_succ]
theorem turnK_perm (l : List Key) (d : Nat) : (turnK l d l.length).Perm l := by
  rcases Nat.eq_zero_or_pos l.length with h0 | h0
  · rw [List.eq_nil_of_length_eq_zero h0]; exact List.Perm.refl _
  · have e : turnK l d l.length = l.drop (d % l.length) ++ l.take (d % l.length) := by
      have hd := Nat.mod_lt d h0
      apply List.ext_getElem
      · simp [turnK]; omega
      · intro i h1 h2
        have hi : i < l.length := by simpa [turnK] using h1
        simp only [turnK, List.getElem_map, List.getElem_range]
        have hm : (i + d) % l.length < l.length := Nat.mod_lt _ h0
        rw [getElem!_pos l _ hm]
        rw [List.getElem_append]
        split
        · rename_i hlt
          rw [List.getElem_drop]
          congr 1
          simp at hlt
          rw [Nat.add_mod, Nat.mod_eq_of_lt hi, Nat.mod_eq_of_lt (by omega)]
          omega
        · rename_i hlt
          rw [List.getElem_take]
          congr 1
          simp at hlt ⊢
          rw [Nat.add_mod, Nat.mod_eq_of_lt hi]
          have : i + d % l.length - l.length < l.length := by omega
          rw [Nat.mod_eq_sub_mod (by omega), Nat.mod_eq_of_lt this]
          omega
    rw [e]
    have := List.perm_append_comm (l₁ := l.drop (d % l.length)) (l₂ := l.take (d % l.length))
    rw [List.take_append_drop] at this
    exact this
theorem srt_adj {s : List Key} (h : Srt kcmp s) {i : Nat} (h1 : 1 ≤ i) (h2 : i < s.length) : klt s[i]! s[i - 1]! = false := by
  rw [getElem!_pos s i h2, getElem!_pos s (i - 1) (by omega)]
  have := List.pairwise_iff_getElem.1 h (i - 1) i (by omega) h2 (by omega)
  simpa [klt] using this
theorem meetK_self (l : List Key) : meetK l (ksort l) = decide (0 < l.length) := by
  rw [Bool.eq_iff_iff, meetK_iff]
  simp only [ksort_mem, and_self, decide_eq_true_eq]
  refine ⟨fun ⟨k, h⟩ => List.length_pos_of_mem h, fun h => ⟨l[0], List.getElem_mem h⟩⟩
section
variable {σ : St} {A : Option Addr} {n c : Nat} {xs : List Key} {x : UInt8}
instance rule_KeysSorts [h : SL σ A n c keyE xs] : CallRule Try.prog 5 [.slice A n c, .int .u8 (x.toNat : Int)] σ (fun K _ => ∀ σ', Nx σ σ' .no → K (.bool true) σ') := ⟨fun K E hK => by
  have hl := h.len
  by_cases hn : 200 < n
  · haveI : BV (decide ((200 : Int) < (n : Int))) true := ⟨by simp; omega⟩
    refine calls_enter Try.func5 rfl _ Try.ntmps5 rfl ?_
    (repeat (first | with_reducible refine then_n ?_ | with_reducible refine WL.stepR ?_ | with_reducible refine WL.nil ?_ | ((with_reducible refine WX.isP ?_); first | refine WX.pure rfl rfl (fun _ => inferInstance) ?_ | refine WX.pure_hit rfl rfl rfl rfl (fun _ => inferInstance) ?_ | refine WX.pure_miss rfl rfl rfl rfl rfl ?_) | ((with_reducible refine WX.isL ?_); first | refine WX.light rfl rfl (fun _ _ => inferInstance) ?_ | refine WX.light_hit rfl rfl rfl rfl (fun _ _ => inferInstance) ?_ | refine WX.light_miss rfl rfl rfl rfl rfl ?_) | ((with_reducible refine WX.isH ?_); first | refine WX.heavy rfl rfl ?_ | refine WX.heavy0 rfl ?_ | refine WX.heavy_hit rfl rfl rfl rfl ?_ | refine WX.heavy_miss rfl rfl rfl rfl rfl ?_) | with_reducible refine ⟨fun _ => inferInstance, ?_⟩ | refine ⟨fun h => (h (by decide)).elim, ?_⟩ | with_reducible refine WX.nil ?_ | with_reducible refine WC.region ?_ | with_reducible refine WC.seqV (fun yc hyc => ?_) | with_reducible refine WC.block ?_ | with_reducible refine WC.ret ?_ | with_reducible refine WC.exit ?_ | with_reducible refine WC.skip ?_ | with_reducible refine WC.condT ?_ | with_reducible refine WC.condF ?_ | with_reducible refine WC.code_ (by assumption) ?_ | with_reducible refine then_r ?_ | with_reducible refine then_e ?_ | with_reducible refine block_n ?_ | with_reducible refine block_r ?_ | with_reducible refine block_hit ?_ | with_reducible refine block_miss ?_ | with_reducible refine loop_r ?_ | with_reducible refine loop_e ?_ | with_reducible refine WL.step0 ?_ | ((with_reducible refine WL.guard ?_); first | refine WL.hit rfl rfl ?_ | refine WL.missed rfl rfl rfl rfl ?_ | refine WL.missed0 rfl rfl rfl ?_) | with_reducible intro _ | refine ⟨by omega, ?_⟩ | fail))
    exact back1 (σ0 := σ) Try.results5 (fun σ' _ _ => hK σ' inferInstance)
  haveI : BV (decide ((200 : Int) < (n : Int))) false := ⟨by simp; omega⟩
  have hx : x.toNat < 256 := x.toNat_lt
  refine calls_enter Try.func5 rfl _ Try.ntmps5 rfl ?_
  (repeat (first | with_reducible refine then_n ?_ | with_reducible refine WL.stepR ?_ | with_reducible refine WL.nil ?_ | ((with_reducible refine WX.isP ?_); first | refine WX.pure rfl rfl (fun _ => inferInstance) ?_ | refine WX.pure_hit rfl rfl rfl rfl (fun _ => inferInstance) ?_ | refine WX.pure_miss rfl rfl rfl rfl rfl ?_) | ((with_reducible refine WX.isL ?_); first | refine WX.light rfl rfl (fun _ _ => inferInstance) ?_ | refine WX.light_hit rfl rfl rfl rfl (fun _ _ => inferInstance) ?_ | refine WX.light_miss rfl rfl rfl rfl rfl ?_) | ((with_reducible refine WX.isH ?_); first | refine WX.heavy rfl rfl ?_ | refine WX.heavy0 rfl ?_ | refine WX.heavy_hit rfl rfl rfl rfl ?_ | refine WX.heavy_miss rfl rfl rfl rfl rfl ?_) | with_reducible refine ⟨fun _ => inferInstance, ?_⟩ | refine ⟨fun h => (h (by decide)).elim, ?_⟩ | with_reducible refine WX.nil ?_ | with_reducible refine WC.region ?_ | with_reducible refine WC.seqV (fun yc hyc => ?_) | with_reducible refine WC.block ?_ | with_reducible refine WC.ret ?_ | with_reducible refine WC.exit ?_ | with_reducible refine WC.skip ?_ | with_reducible refine WC.condT ?_ | with_reducible refine WC.condF ?_ | with_reducible refine WC.code_ (by assumption) ?_ | with_reducible refine then_r ?_ | with_reducible refine then_e ?_ | with_reducible refine block_n ?_ | with_reducible refine block_r ?_ | with_reducible refine block_hit ?_ | with_reducible refine block_miss ?_ | with_reducible refine loop_r ?_ | with_reducible refine loop_e ?_ | with_reducible refine WL.step0 ?_ | ((with_reducible refine WL.guard ?_); first | refine WL.hit rfl rfl ?_ | refine WL.missed rfl rfl rfl rfl ?_ | refine WL.missed0 rfl rfl rfl ?_) | with_reducible intro _ | refine ⟨by omega, ?_⟩ | fail))
  refine WC.loop (fun (i : Nat) f s => At f 0 (.slice A n c) ∧ At f 1 (.int .u8 (x.toNat : Int)) ∧ At f 6 (.int .i64 (i : Int)) ∧ Nx σ s .no ∧ i ≤ n ∧ ∃ A' c', At f 5 (.slice A' i c') ∧ Row s A' i c' 23 keyE (turnK xs x.toNat i) ∧ FreshR σ A') (fun i => n - i) 0
    ⟨inferInstance, inferInstance, At.to (.int .i64 0) rfl, Sub.nx (σ0 := σ) inferInstance, Nat.zero_le _, _, _, inferInstance, (inferInstance : Row _ _ 0 0 23 keyE []), inferInstance⟩ ?_
  rintro i f s ⟨a0, a1, a6, hs, hi, A1, c1, a5, hr, hf⟩
  (repeat (first | with_reducible refine then_n ?_ | with_reducible refine WL.stepR ?_ | with_reducible refine WL.nil ?_ | ((with_reducible refine WX.isP ?_); first | refine WX.pure rfl rfl (fun _ => inferInstance) ?_ | refine WX.pure_hit rfl rfl rfl rfl (fun _ => inferInstance) ?_ | refine WX.pure_miss rfl rfl rfl rfl rfl ?_) | ((with_reducible refine WX.isL ?_); first | refine WX.light rfl rfl (fun _ _ => inferInstance) ?_ | refine WX.light_hit rfl rfl rfl rfl (fun _ _ => inferInstance) ?_ | refine WX.light_miss rfl rfl rfl rfl rfl ?_) | ((with_reducible refine WX.isH ?_); first | refine WX.heavy rfl rfl ?_ | refine WX.heavy0 rfl ?_ | refine WX.heavy_hit rfl rfl rfl rfl ?_ | refine WX.heavy_miss rfl rfl rfl rfl rfl ?_) | with_reducible refine ⟨fun _ => inferInstance, ?_⟩ | refine ⟨fun h => (h (by decide)).elim, ?_⟩ | with_reducible refine WX.nil ?_ | with_reducible refine WC.region ?_ | with_reducible refine WC.seqV (fun yc hyc => ?_) | with_reducible refine WC.block ?_ | with_reducible refine WC.ret ?_ | with_reducible refine WC.exit ?_ | with_reducible refine WC.skip ?_ | with_reducible refine WC.condT ?_ | with_reducible refine WC.condF ?_ | with_reducible refine WC.code_ (by assumption) ?_ | with_reducible refine then_r ?_ | with_reducible refine then_e ?_ | with_reducible refine block_n ?_ | with_reducible refine block_r ?_ | with_reducible refine block_hit ?_ | with_reducible refine block_miss ?_ | with_reducible refine loop_r ?_ | with_reducible refine loop_e ?_ | with_reducible refine WL.step0 ?_ | ((with_reducible refine WL.guard ?_); first | refine WL.hit rfl rfl ?_ | refine WL.missed rfl rfl rfl rfl ?_ | refine WL.missed0 rfl rfl rfl ?_) | with_reducible intro _ | refine ⟨by omega, ?_⟩ | fail))
  refine WC.cond ?_ ?_ <;> intro hb
  · have hlt : i < n := by simpa using hb
    haveI : PosN n := ⟨by omega⟩
    haveI : Fits .i64 ((i : Int) + 1) := Fits.i64 (by omega) (by omega)
    haveI : Fits .i64 (x.toNat : Int) := Fits.i64 (by omega) (by omega)
    haveI : Fits .i64 ((i : Int) + (x.toNat : Int)) := Fits.i64 (by omega) (by omega)
    haveI : IdxLt ((i + x.toNat) % n) n := ⟨Nat.mod_lt _ (by omega)⟩
    (repeat (first | with_reducible refine then_n ?_ | with_reducible refine WL.stepR ?_ | with_reducible refine WL.nil ?_ | ((with_reducible refine WX.isP ?_); first | refine WX.pure rfl rfl (fun _ => inferInstance) ?_ | refine WX.pure_hit rfl rfl rfl rfl (fun _ => inferInstance) ?_ | refine WX.pure_miss rfl rfl rfl rfl rfl ?_) | ((with_reducible refine WX.isL ?_); first | refine WX.light rfl rfl (fun _ _ => inferInstance) ?_ | refine WX.light_hit rfl rfl rfl rfl (fun _ _ => inferInstance) ?_ | refine WX.light_miss rfl rfl rfl rfl rfl ?_) | ((with_reducible refine WX.isH ?_); first | refine WX.heavy rfl rfl ?_ | refine WX.heavy0 rfl ?_ | refine WX.heavy_hit rfl rfl rfl rfl ?_ | refine WX.heavy_miss rfl rfl rfl rfl rfl ?_) | with_reducible refine ⟨fun _ => inferInstance, ?_⟩ | refine ⟨fun h => (h (by decide)).elim, ?_⟩ | with_reducible refine WX.nil ?_ | with_reducible refine WC.region ?_ | with_reducible refine WC.seqV (fun yc hyc => ?_) | with_reducible refine WC.block ?_ | with_reducible refine WC.ret ?_ | with_reducible refine WC.exit ?_ | with_reducible refine WC.skip ?_ | with_reducible refine WC.condT ?_ | with_reducible refine WC.condF ?_ | with_reducible refine WC.code_ (by assumption) ?_ | with_reducible refine then_r ?_ | with_reducible refine then_e ?_ | with_reducible refine block_n ?_ | with_reducible refine block_r ?_ | with_reducible refine block_hit ?_ | with_reducible refine block_miss ?_ | with_reducible refine loop_r ?_ | with_reducible refine loop_e ?_ | with_reducible refine WL.step0 ?_ | ((with_reducible refine WL.guard ?_); first | refine WL.hit rfl rfl ?_ | refine WL.missed rfl rfl rfl rfl ?_ | refine WL.missed0 rfl rfl rfl ?_) | with_reducible intro _ | refine ⟨by omega, ?_⟩ | fail))
    have hr2 := (by assumption : Row _ _ (i + 1) _ _ _ _)
    rw [← hl, ← turnK_succ] at hr2
    refine loop_n (i + 1) ⟨inferInstance, inferInstance, At.to (.int .i64 ((i : Int) + 1)) (by simp), Sub.nx (σ0 := σ) inferInstance, hlt, _, _, inferInstance, hr2, inferInstance⟩ (by omega)
  have hin : i = n := by have := hb; simp at this; omega
  subst hin
  (repeat (first | with_reducible refine then_n ?_ | with_reducible refine WL.stepR ?_ | with_reducible refine WL.nil ?_ | ((with_reducible refine WX.isP ?_); first | refine WX.pure rfl rfl (fun _ => inferInstance) ?_ | refine WX.pure_hit rfl rfl rfl rfl (fun _ => inferInstance) ?_ | refine WX.pure_miss rfl rfl rfl rfl rfl ?_) | ((with_reducible refine WX.isL ?_); first | refine WX.light rfl rfl (fun _ _ => inferInstance) ?_ | refine WX.light_hit rfl rfl rfl rfl (fun _ _ => inferInstance) ?_ | refine WX.light_miss rfl rfl rfl rfl rfl ?_) | ((with_reducible refine WX.isH ?_); first | refine WX.heavy rfl rfl ?_ | refine WX.heavy0 rfl ?_ | refine WX.heavy_hit rfl rfl rfl rfl ?_ | refine WX.heavy_miss rfl rfl rfl rfl rfl ?_) | with_reducible refine ⟨fun _ => inferInstance, ?_⟩ | refine ⟨fun h => (h (by decide)).elim, ?_⟩ | with_reducible refine WX.nil ?_ | with_reducible refine WC.seqV (fun yc hyc => ?_) | with_reducible refine WC.block ?_ | with_reducible refine WC.ret ?_ | with_reducible refine WC.exit ?_ | with_reducible refine WC.skip ?_ | with_reducible refine WC.condT ?_ | with_reducible refine WC.condF ?_ | with_reducible refine WC.code_ (by assumption) ?_ | with_reducible refine then_r ?_ | with_reducible refine then_e ?_ | with_reducible refine block_n ?_ | with_reducible refine block_r ?_ | with_reducible refine block_hit ?_ | with_reducible refine block_miss ?_ | with_reducible refine loop_r ?_ | with_reducible refine loop_e ?_ | with_reducible refine WL.step0 ?_ | ((with_reducible refine WL.guard ?_); first | refine WL.hit rfl rfl ?_ | refine WL.missed rfl rfl rfl rfl ?_ | refine WL.missed0 rfl rfl rfl ?_) | with_reducible intro _ | refine ⟨by omega, ?_⟩ | fail))
  refine WC.freeze A1 (fun s1 hn1 hs1 => ?_)
  haveI := Sub.nx (σ0 := σ) (inferInstance : Sub σ s1)
  have hp := turnK_perm xs x.toNat
  rw [hl] at hp
  have hst := ksort_congr hp
  (repeat (first | with_reducible refine then_n ?_ | with_reducible refine WL.stepR ?_ | with_reducible refine WL.nil ?_ | ((with_reducible refine WX.isP ?_); first | refine WX.pure rfl rfl (fun _ => inferInstance) ?_ | refine WX.pure_hit rfl rfl rfl rfl (fun _ => inferInstance) ?_ | refine WX.pure_miss rfl rfl rfl rfl rfl ?_) | ((with_reducible refine WX.isL ?_); first | refine WX.light rfl rfl (fun _ _ => inferInstance) ?_ | refine WX.light_hit rfl rfl rfl rfl (fun _ _ => inferInstance) ?_ | refine WX.light_miss rfl rfl rfl rfl rfl ?_) | ((with_reducible refine WX.isH ?_); first | refine WX.heavy rfl rfl ?_ | refine WX.heavy0 rfl ?_ | refine WX.heavy_hit rfl rfl rfl rfl ?_ | refine WX.heavy_miss rfl rfl rfl rfl rfl ?_) | with_reducible refine ⟨fun _ => inferInstance, ?_⟩ | refine ⟨fun h => (h (by decide)).elim, ?_⟩ | with_reducible refine WX.nil ?_ | with_reducible refine WC.region ?_ | with_reducible refine WC.seqV (fun yc hyc => ?_) | with_reducible refine WC.block ?_ | with_reducible refine WC.ret ?_ | with_reducible refine WC.exit ?_ | with_reducible refine WC.skip ?_ | with_reducible refine WC.condT ?_ | with_reducible refine WC.condF ?_ | with_reducible refine WC.code_ (by assumption) ?_ | with_reducible refine then_r ?_ | with_reducible refine then_e ?_ | with_reducible refine block_n ?_ | with_reducible refine block_r ?_ | with_reducible refine block_hit ?_ | with_reducible refine block_miss ?_ | with_reducible refine loop_r ?_ | with_reducible refine loop_e ?_ | with_reducible refine WL.step0 ?_ | ((with_reducible refine WL.guard ?_); first | refine WL.hit rfl rfl ?_ | refine WL.missed rfl rfl rfl rfl ?_ | refine WL.missed0 rfl rfl rfl ?_) | with_reducible intro _ | refine ⟨by omega, ?_⟩ | fail))
  rename_i hm1 hm2 s2 A2 c2 hn2 hs2 _ _
  refine WC.loop (fun (j : Nat) f s => At f 0 (.slice A i c) ∧ At f 5 (.slice A1 i c1) ∧ At f 7 (.slice A2 i c2) ∧ At f 8 (.int .i64 (j : Int)) ∧ Nx σ s .no ∧ SL s A1 i c1 keyE (turnK xs x.toNat i) ∧ SL s A2 i c2 keyE (ksort xs) ∧ 1 ≤ j ∧ j ≤ i + 1) (fun j => i + 1 - j) 1
    ⟨inferInstance, inferInstance, inferInstance, At.to (.int .i64 1) rfl, Sub.nx (σ0 := σ) inferInstance, inferInstance, inferInstance, Nat.le_refl _, by omega⟩ ?_
  rintro j f s ⟨a0, a5, a7, a8, hs, hs1, hs2, hj1, hji⟩
  have hsl := ksort_length xs
  haveI : Fits .i64 ((j : Int) + 1) := Fits.i64 (by omega) (by omega)
  by_cases hlt : j < i
  · haveI : BV (decide ((j : Int) < (i : Int))) true := ⟨by simp; omega⟩
    haveI : IdxLt j i := ⟨hlt⟩
    haveI : IdxLt (j - 1) i := ⟨by omega⟩
    haveI : LeN 1 j := ⟨hj1⟩
    haveI : Fits .i64 ((j : Int) - 1) := Fits.i64 (by omega) (by omega)
    haveI : BV (klt (ksort xs)[j]! (ksort xs)[j - 1]!) false := ⟨srt_adj (ksort_srt xs) hj1 (by omega)⟩
    (repeat (first | with_reducible refine then_n ?_ | with_reducible refine WL.stepR ?_ | with_reducible refine WL.nil ?_ | ((with_reducible refine WX.isP ?_); first | refine WX.pure rfl rfl (fun _ => inferInstance) ?_ | refine WX.pure_hit rfl rfl rfl rfl (fun _ => inferInstance) ?_ | refine WX.pure_miss rfl rfl rfl rfl rfl ?_) | ((with_reducible refine WX.isL ?_); first | refine WX.light rfl rfl (fun _ _ => inferInstance) ?_ | refine WX.light_hit rfl rfl rfl rfl (fun _ _ => inferInstance) ?_ | refine WX.light_miss rfl rfl rfl rfl rfl ?_) | ((with_reducible refine WX.isH ?_); first | refine WX.heavy rfl rfl ?_ | refine WX.heavy0 rfl ?_ | refine WX.heavy_hit rfl rfl rfl rfl ?_ | refine WX.heavy_miss rfl rfl rfl rfl rfl ?_) | with_reducible refine ⟨fun _ => inferInstance, ?_⟩ | refine ⟨fun h => (h (by decide)).elim, ?_⟩ | with_reducible refine WX.nil ?_ | with_reducible refine WC.region ?_ | with_reducible refine WC.seqV (fun yc hyc => ?_) | with_reducible refine WC.block ?_ | with_reducible refine WC.ret ?_ | with_reducible refine WC.exit ?_ | with_reducible refine WC.skip ?_ | with_reducible refine WC.condT ?_ | with_reducible refine WC.condF ?_ | with_reducible refine WC.code_ (by assumption) ?_ | with_reducible refine then_r ?_ | with_reducible refine then_e ?_ | with_reducible refine block_n ?_ | with_reducible refine block_r ?_ | with_reducible refine block_hit ?_ | with_reducible refine block_miss ?_ | with_reducible refine loop_r ?_ | with_reducible refine loop_e ?_ | with_reducible refine WL.step0 ?_ | ((with_reducible refine WL.guard ?_); first | refine WL.hit rfl rfl ?_ | refine WL.missed rfl rfl rfl rfl ?_ | refine WL.missed0 rfl rfl rfl ?_) | with_reducible intro _ | refine ⟨by omega, ?_⟩ | fail))
    refine WC.draw [] (.p 0 (.p 1 (.l 2 (.l 3 (.p 4 (.p 5 (.p 6 (.l 7 (.l 8 (.h 9 .nil)))))))))) mixed (by decide +kernel) ?_
    (repeat (first | with_reducible refine then_n ?_ | with_reducible refine WL.stepR ?_ | with_reducible refine WL.nil ?_ | ((with_reducible refine WX.isP ?_); first | refine WX.pure rfl rfl (fun _ => inferInstance) ?_ | refine WX.pure_hit rfl rfl rfl rfl (fun _ => inferInstance) ?_ | refine WX.pure_miss rfl rfl rfl rfl rfl ?_) | ((with_reducible refine WX.isL ?_); first | refine WX.light rfl rfl (fun _ _ => inferInstance) ?_ | refine WX.light_hit rfl rfl rfl rfl (fun _ _ => inferInstance) ?_ | refine WX.light_miss rfl rfl rfl rfl rfl ?_) | ((with_reducible refine WX.isH ?_); first | refine WX.heavy rfl rfl ?_ | refine WX.heavy0 rfl ?_ | refine WX.heavy_hit rfl rfl rfl rfl ?_ | refine WX.heavy_miss rfl rfl rfl rfl rfl ?_) | with_reducible refine ⟨fun _ => inferInstance, ?_⟩ | refine ⟨fun h => (h (by decide)).elim, ?_⟩ | with_reducible refine WX.nil ?_ | with_reducible refine WC.region ?_ | with_reducible refine WC.seqV (fun yc hyc => ?_) | with_reducible refine WC.block ?_ | with_reducible refine WC.ret ?_ | with_reducible refine WC.exit ?_ | with_reducible refine WC.skip ?_ | with_reducible refine WC.condT ?_ | with_reducible refine WC.condF ?_ | with_reducible refine WC.code_ (by assumption) ?_ | with_reducible refine then_r ?_ | with_reducible refine then_e ?_ | with_reducible refine block_n ?_ | with_reducible refine block_r ?_ | with_reducible refine block_hit ?_ | with_reducible refine block_miss ?_ | with_reducible refine loop_r ?_ | with_reducible refine loop_e ?_ | with_reducible refine WL.step0 ?_ | ((with_reducible refine WL.guard ?_); first | refine WL.hit rfl rfl ?_ | refine WL.missed rfl rfl rfl rfl ?_ | refine WL.missed0 rfl rfl rfl ?_) | with_reducible intro _ | refine ⟨by omega, ?_⟩ | fail))
    refine loop_n (j + 1) ⟨inferInstance, inferInstance, inferInstance, At.to (.int .i64 ((j : Int) + 1)) (by simp), Sub.nx (σ0 := σ) inferInstance, inferInstance, inferInstance, by omega, by omega⟩ (by omega)
  · haveI : BV (decide ((j : Int) < (i : Int))) false := ⟨by simp; omega⟩
    haveI : BV (decide ((i : Int) = (i : Int))) true := ⟨by simp⟩
    haveI : BV (decide (ksort (turnK xs x.toNat i) = ksort xs)) true := ⟨by simp [hst]⟩
    haveI : BV (decide (ksort (ksort xs) = ksort xs)) true := ⟨by simp [ksort_ksort]⟩
    by_cases h0 : 0 < i
    · haveI : BV (meetK xs (ksort xs)) true := ⟨by rw [meetK_self, hl]; simp; omega⟩
      haveI : BV (decide ((0 : Int) < (i : Int))) true := ⟨by simp; omega⟩
      (repeat (first | with_reducible refine then_n ?_ | with_reducible refine WL.stepR ?_ | with_reducible refine WL.nil ?_ | ((with_reducible refine WX.isP ?_); first | refine WX.pure rfl rfl (fun _ => inferInstance) ?_ | refine WX.pure_hit rfl rfl rfl rfl (fun _ => inferInstance) ?_ | refine WX.pure_miss rfl rfl rfl rfl rfl ?_) | ((with_reducible refine WX.isL ?_); first | refine WX.light rfl rfl (fun _ _ => inferInstance) ?_ | refine WX.light_hit rfl rfl rfl rfl (fun _ _ => inferInstance) ?_ | refine WX.light_miss rfl rfl rfl rfl rfl ?_) | ((with_reducible refine WX.isH ?_); first | refine WX.heavy rfl rfl ?_ | refine WX.heavy0 rfl ?_ | refine WX.heavy_hit rfl rfl rfl rfl ?_ | refine WX.heavy_miss rfl rfl rfl rfl rfl ?_) | with_reducible refine ⟨fun _ => inferInstance, ?_⟩ | refine ⟨fun h => (h (by decide)).elim, ?_⟩ | with_reducible refine WX.nil ?_ | with_reducible refine WC.region ?_ | with_reducible refine WC.seqV (fun yc hyc => ?_) | with_reducible refine WC.block ?_ | with_reducible refine WC.ret ?_ | with_reducible refine WC.exit ?_ | with_reducible refine WC.skip ?_ | with_reducible refine WC.condT ?_ | with_reducible refine WC.condF ?_ | with_reducible refine WC.code_ (by assumption) ?_ | with_reducible refine then_r ?_ | with_reducible refine then_e ?_ | with_reducible refine block_n ?_ | with_reducible refine block_r ?_ | with_reducible refine block_hit ?_ | with_reducible refine block_miss ?_ | with_reducible refine loop_r ?_ | with_reducible refine loop_e ?_ | with_reducible refine WL.step0 ?_ | ((with_reducible refine WL.guard ?_); first | refine WL.hit rfl rfl ?_ | refine WL.missed rfl rfl rfl rfl ?_ | refine WL.missed0 rfl rfl rfl ?_) | with_reducible intro _ | refine ⟨by omega, ?_⟩ | fail))
      exact back1 (σ0 := σ) Try.results5 (fun σ' _ _ => hK σ' inferInstance)
    · haveI : BV (meetK xs (ksort xs)) false := ⟨by rw [meetK_self, hl]; simp; omega⟩
      haveI : BV (decide ((0 : Int) < (i : Int))) false := ⟨by simp; omega⟩
      (repeat (first | with_reducible refine then_n ?_ | with_reducible refine WL.stepR ?_ | with_reducible refine WL.nil ?_ | ((with_reducible refine WX.isP ?_); first | refine WX.pure rfl rfl (fun _ => inferInstance) ?_ | refine WX.pure_hit rfl rfl rfl rfl (fun _ => inferInstance) ?_ | refine WX.pure_miss rfl rfl rfl rfl rfl ?_) | ((with_reducible refine WX.isL ?_); first | refine WX.light rfl rfl (fun _ _ => inferInstance) ?_ | refine WX.light_hit rfl rfl rfl rfl (fun _ _ => inferInstance) ?_ | refine WX.light_miss rfl rfl rfl rfl rfl ?_) | ((with_reducible refine WX.isH ?_); first | refine WX.heavy rfl rfl ?_ | refine WX.heavy0 rfl ?_ | refine WX.heavy_hit rfl rfl rfl rfl ?_ | refine WX.heavy_miss rfl rfl rfl rfl rfl ?_) | with_reducible refine ⟨fun _ => inferInstance, ?_⟩ | refine ⟨fun h => (h (by decide)).elim, ?_⟩ | with_reducible refine WX.nil ?_ | with_reducible refine WC.region ?_ | with_reducible refine WC.seqV (fun yc hyc => ?_) | with_reducible refine WC.block ?_ | with_reducible refine WC.ret ?_ | with_reducible refine WC.exit ?_ | with_reducible refine WC.skip ?_ | with_reducible refine WC.condT ?_ | with_reducible refine WC.condF ?_ | with_reducible refine WC.code_ (by assumption) ?_ | with_reducible refine then_r ?_ | with_reducible refine then_e ?_ | with_reducible refine block_n ?_ | with_reducible refine block_r ?_ | with_reducible refine block_hit ?_ | with_reducible refine block_miss ?_ | with_reducible refine loop_r ?_ | with_reducible refine loop_e ?_ | with_reducible refine WL.step0 ?_ | ((with_reducible refine WL.guard ?_); first | refine WL.hit rfl rfl ?_ | refine WL.missed rfl rfl rfl rfl ?_ | refine WL.missed0 rfl rfl rfl ?_) | with_reducible intro _ | refine ⟨by omega, ?_⟩ | fail))
      exact back1 (σ0 := σ) Try.results5 (fun σ' _ _ => hK σ' inferInstance)⟩
end
end Go.Proofs.Ytlidbnmdhnfolaa
