/- The references' small functions of keys, by contract. No condition. -/
import Derived.Test.YtlcpjfeomlegpaaEl
import Derived.Test.YtlcpjfeomlegpaaK1
set_option linter.all false
set_option maxHeartbeats 40000000
set_option synthInstance.maxHeartbeats 2000000
set_option synthInstance.maxSize 100000
namespace Go.Proofs.Ytlcpjfeomlegpaa
open Go Go.RowKit

theorem take_snoc_eq {xs ys : List Key} {i : Nat} (h1 : i < xs.length) (h2 : i < ys.length) (h : xs.take i = ys.take i) (e : xs[i]! = ys[i]!) : xs.take (i + 1) = ys.take (i + 1) := by
  rw [List.take_succ_eq_append_getElem h1, List.take_succ_eq_append_getElem h2, h]
  rw [getElem!_pos xs i h1, getElem!_pos ys i h2] at e
  rw [e]

instance r_ref04_Same {σ : St} {A B : Option Addr} {n c m d : Nat} {xs ys : List Key} [h : SL σ A n c keyE xs] [g : SL σ B m d keyE ys] {bb : Bool} [q : BV (decide (xs = ys)) bb] :
    CallRule Try.prog 12 [.slice A n c, .slice B m d] σ (fun K _ => ∀ σ', Nx σ σ' .no → K (.bool bb) σ') := ⟨fun K E hK => by
  have hq := q.eq; subst hq
  have hl1 := h.len
  have hl2 := g.len
  have hm := h.max
  refine calls_enter Try.func12 rfl _ Try.ntmps12 rfl ?_
  (repeat (first | refine go ?_ | refine goR ?_ | refine goS (fun yc hyc => ?_) | refine goL (fun _ _ => inferInstance) ?_ | with_reducible intro _ | refine goO (by omega) ?_ | fail))
  refine WC.cond ?_ ?_ <;> intro hb
  · (repeat (first | refine go ?_ | refine goR ?_ | refine goS (fun yc hyc => ?_) | refine goL (fun _ _ => inferInstance) ?_ | with_reducible intro _ | refine goO (by omega) ?_ | fail))
    refine back1 (σ0 := σ) Try.results12 (fun σ' _ _ => ?_)
    have : ¬ xs = ys := by rintro rfl; simp at hb; omega
    simpa [this] using hK σ' inferInstance
  · have hnm : n = m := by have := hb; simp at this; omega
    subst hnm
    (repeat (first | refine go ?_ | refine goR ?_ | refine goS (fun yc hyc => ?_) | refine goL (fun _ _ => inferInstance) ?_ | with_reducible intro _ | refine goO (by omega) ?_ | fail))
    refine WC.loop (fun (i : Nat) f s => At f 0 (.slice A n c) ∧ At f 1 (.slice B n d) ∧ At f 5 (.int .i64 (i : Int)) ∧ Nx σ s .no ∧ i ≤ n ∧ xs.take i = ys.take i) (fun i => n - i) 0 ⟨inferInstance, inferInstance, inferInstance, Sub.nx (σ0 := σ) inferInstance, Nat.zero_le _, rfl⟩ ?_
    rintro i f s ⟨a0, a1, a5, hs, hi, he⟩
    (repeat (first | refine go ?_ | refine goR ?_ | refine goS (fun yc hyc => ?_) | refine goL (fun _ _ => inferInstance) ?_ | with_reducible intro _ | refine goO (by omega) ?_ | fail))
    refine WC.cond ?_ ?_ <;> intro hb
    · have hlt : i < n := by simpa using hb
      haveI : IdxLt i n := ⟨hlt⟩
      haveI : Fits .i64 ((i : Int) + 1) := Fits.i64 (by omega) (by omega)
      (repeat (first | refine go ?_ | refine goR ?_ | refine goS (fun yc hyc => ?_) | refine goL (fun _ _ => inferInstance) ?_ | with_reducible intro _ | refine goO (by omega) ?_ | fail))
      refine WC.draw [] (.p 0 (.p 1 (.l 2 (.l 3 (.p 4 (.p 5 (.l 6 (.l 7 (.p 8 .nil))))))))) mixed (by decide +kernel) ?_
      (repeat (first | refine go ?_ | refine goR ?_ | refine goS (fun yc hyc => ?_) | refine goL (fun _ _ => inferInstance) ?_ | with_reducible intro _ | refine goO (by omega) ?_ | fail))
      refine WC.cond ?_ ?_ <;> intro he2
      · (repeat (first | refine go ?_ | refine goR ?_ | refine goS (fun yc hyc => ?_) | refine goL (fun _ _ => inferInstance) ?_ | with_reducible intro _ | refine goO (by omega) ?_ | fail))
        refine back1 (σ0 := σ) Try.results12 (fun σ' _ _ => ?_)
        have : ¬ xs = ys := by rintro rfl; simp at he2
        simpa [this] using hK σ' inferInstance
      · (repeat (first | refine go ?_ | refine goR ?_ | refine goS (fun yc hyc => ?_) | refine goL (fun _ _ => inferInstance) ?_ | with_reducible intro _ | refine goO (by omega) ?_ | fail))
        refine loop_n (i + 1) ⟨inferInstance, inferInstance, At.to (.int .i64 ((i : Int) + 1)) (by simp), Sub.nx (σ0 := σ) inferInstance, hlt, take_snoc_eq (by omega) (by omega) he (by simpa using he2)⟩ (by omega)
    · (repeat (first | refine go ?_ | refine goR ?_ | refine goS (fun yc hyc => ?_) | refine goL (fun _ _ => inferInstance) ?_ | with_reducible intro _ | refine goO (by omega) ?_ | fail))
      have hin : i = n := by have := hb; simp at this; omega
      subst hin
      refine back1 (σ0 := σ) Try.results12 (fun σ' _ _ => ?_)
      have : xs = ys := by
        rw [List.take_of_length_le (by omega), List.take_of_length_le (by omega)] at he
        exact he
      simpa [this] using hK σ' inferInstance⟩
end Go.Proofs.Ytlcpjfeomlegpaa
