/- The law CoinsOnce, by contract. No condition. -/
import Derived.Test.YtpnbfohdfffolaaCd
set_option linter.all false
set_option maxHeartbeats 40000000
set_option synthInstance.maxHeartbeats 2000000
set_option synthInstance.maxSize 100000
namespace Go.Proofs.Ytpnbfohdfffolaa
open Go Go.RowKit
theorem idx_ne {i j : Nat} (hi : i < 4294967296) (hj : j < 4294967296) (h : UInt32.ofNat i = UInt32.ofNat j) : i = j := by
  have := congrArg UInt32.toNat h
  simp at this
  omega
theorem outsM_plc {t : Tx} {id : Key} {h : UInt32} {i j : Nat} (hi : i < t.outs.l.length) (hl : t.outs.l.length < 4294967296) (hj : j ≤ t.outs.l.length) (hij : i < j) : placeC ((outsM t id h).take j) ⟨id, UInt32.ofNat i⟩ = some i := by
  unfold placeC
  have hlen := outsM_len (t := t) (id := id) (h := h)
  refine findIdx_at (by simp; omega) (fun x hx => ?_) ?_
  · rw [List.take_take, Nat.min_eq_left (by omega)] at hx
    rw [List.mem_take_iff_getElem] at hx
    obtain ⟨k, hk, rfl⟩ := hx
    rw [← getElem!_pos, outsM_at (by omega)]
    simp only [decide_eq_false_iff_not, Pt.mk.injEq, true_and]
    intro e
    have := idx_ne (by omega) (by omega) e
    omega
  · have : ((outsM t id h).take j)[i]! = (outsM t id h)[i]! := by
      rw [getElem!_pos _ i (by simp; omega), getElem!_pos _ i (by omega)]; simp
    rw [this, outsM_at hi]; simp
theorem outsM_plc0 {t : Tx} {id : Key} {h : UInt32} {i j : Nat} (hl : t.outs.l.length < 4294967295) (hi : i ≤ t.outs.l.length) (hij : j ≤ i) : placeC ((outsM t id h).take j) ⟨id, UInt32.ofNat i⟩ = none := by
  rw [placeC_none]
  intro x hx
  have hlen := outsM_len (t := t) (id := id) (h := h)
  rw [List.mem_take_iff_getElem] at hx
  obtain ⟨k, hk, rfl⟩ := hx
  rw [← getElem!_pos, outsM_at (by omega)]
  simp only [ne_eq, Pt.mk.injEq, true_and]
  intro e
  have := idx_ne (by omega) (by omega) e
  omega
theorem outs_put {t : Tx} {id : Key} {h : UInt32} (hl : t.outs.l.length < 4294967295) : foldA putC [] (outsM t id h) = some (outsM t id h) := by
  have hlen := outsM_len (t := t) (id := id) (h := h)
  have key : ∀ i, i ≤ t.outs.l.length → foldA putC [] ((outsM t id h).take i) = some ((outsM t id h).take i) := by
    intro i
    induction i with
    | zero => intro _; rw [List.take_zero]; rfl
    | succ i ih =>
      intro hi
      rw [take_snoc (by omega), foldA_snoc, ih (by omega), Option.bind_some, outsM_at (by omega)]
      have hp := outsM_plc0 (t := t) (id := id) (h := h) (i := i) (j := i) hl (by omega) (Nat.le_refl _)
      rw [putC_none hp, cput_none]
      rw [List.any_eq_false]
      intro x hx
      rw [List.mem_take_iff_getElem] at hx
      obtain ⟨k, hk, rfl⟩ := hx
      rw [← getElem!_pos, outsM_at (by omega)]
      have e1 : (UInt32.ofNat i).toNat = i := by simp; omega
      have e2 : (UInt32.ofNat k).toNat = k := by simp; omega
      simp only [plt, if_true, decide_eq_true_eq, e1, e2]
      omega
  have := key t.outs.l.length (Nat.le_refl _)
  rwa [List.take_of_length_le (by omega)] at this
theorem apply_made {t : Tx} {id : Key} {h : UInt32} (hi : t.ins.l = []) (hl : t.outs.l.length < 4294967295) : applyR [] t id h = (outsM t id h, [], 0) := by
  have hcb : cbM t = false := by unfold cbM; rw [hi]; rfl
  have hsp : spentM [] t h = some ([], []) := by unfold spentM; rw [if_neg (by simp [hcb]), hi]; rfl
  unfold applyR
  rw [hsp]
  simp only [outs_put hl]
theorem apply_take {xs : List Cn} {t : Tx} {p : Pt} {other : Key} {hu : UInt32} {i : Nat} (h1 : t.ins.l = [p]) (h2 : t.outs.l = []) (hid : p.tx ≠ key0) (hp : placeC xs p = some i) (hr : ripe xs[i]! hu = true) : applyR xs t other hu = (xs.take i ++ xs.drop (i + 1), [xs[i]!], 0) := by
  have hcb : cbM t = false := by unfold cbM; rw [h1]; simp [hid]
  have hsp : spentM xs t hu = some (xs.take i ++ xs.drop (i + 1), [xs[i]!]) := by
    unfold spentM
    rw [if_neg (by simp [hcb]), h1]
    unfold takesM takeM
    simp only [List.foldl_cons, List.foldl_nil, Option.bind_some, hp, hr, if_true, Option.map_some, List.nil_append]
  have hou : outsM t other hu = [] := by unfold outsM; rw [h2]; rfl
  unfold applyR
  rw [hsp, hou]; rfl
theorem apply_no {xs : List Cn} {t : Tx} {p : Pt} {other : Key} {hu : UInt32} (h1 : t.ins.l = [p]) (hid : p.tx ≠ key0) (hp : placeC xs p = none) : applyR xs t other hu = ([], [], 160) := by
  have hcb : cbM t = false := by unfold cbM; rw [h1]; simp [hid]
  have hsp : spentM xs t hu = none := by
    unfold spentM
    rw [if_neg (by simp [hcb]), h1]
    unfold takesM takeM
    simp only [List.foldl_cons, List.foldl_nil, Option.bind_some, hp, Option.map_none]
  unfold applyR
  rw [hsp]
def valO (v : UInt16) : Ot := ⟨Int64.ofInt (v.toNat : Int), key0⟩
section
variable {σ : St} {id other third : Key} {A : Option Addr} {n c : Nat} {vs : List UInt16}
instance rule_CoinsOnce [h : SL σ A n c u16E vs] : CallRule Try.prog 5 [.agg (kc id), .agg (kc other), .agg (kc third), .slice A n c] σ (fun K _ => ∀ σ', Nx σ σ' .no → K (.bool true) σ') := ⟨fun K E hK => by
  have hl := h.len
  by_cases h30 : 30 < n
  · haveI : BV (decide ((30 : Int) < (n : Int))) true := ⟨decide_eq_true (by omega)⟩
    refine calls_enter Try.func5 rfl _ Try.ntmps5 rfl ?_
    (repeat (first | refine go ?_ | refine goR ?_ | refine goS (fun yc hyc => ?_) | refine goL (fun _ _ => inferInstance) ?_ | with_reducible intro _ | refine goO (by first | omega | (simp only [List.length_cons, List.length_nil]; omega)) ?_ | fail))
    exact backN (σ0 := σ) Try.results5 (fun σ' _ _ => hK σ' inferInstance)
  haveI : BV (decide ((30 : Int) < (n : Int))) false := ⟨decide_eq_false (by omega)⟩
  by_cases hn0 : n = 0
  · haveI : BV (decide ((n : Int) = 0)) true := ⟨decide_eq_true (by omega)⟩
    refine calls_enter Try.func5 rfl _ Try.ntmps5 rfl ?_
    (repeat (first | refine go ?_ | refine goR ?_ | refine goS (fun yc hyc => ?_) | refine goL (fun _ _ => inferInstance) ?_ | with_reducible intro _ | refine goO (by first | omega | (simp only [List.length_cons, List.length_nil]; omega)) ?_ | fail))
    exact backN (σ0 := σ) Try.results5 (fun σ' _ _ => hK σ' inferInstance)
  haveI : BV (decide ((n : Int) = 0)) false := ⟨decide_eq_false (by omega)⟩
  by_cases hid : id = key0
  · haveI : BV (decide (id = key0)) true := ⟨decide_eq_true hid⟩
    refine calls_enter Try.func5 rfl _ Try.ntmps5 rfl ?_
    (repeat (first | refine go ?_ | refine goR ?_ | refine goS (fun yc hyc => ?_) | refine goL (fun _ _ => inferInstance) ?_ | with_reducible intro _ | refine goO (by first | omega | (simp only [List.length_cons, List.length_nil]; omega)) ?_ | fail))
    exact backN (σ0 := σ) Try.results5 (fun σ' _ _ => hK σ' inferInstance)
  haveI : BV (decide (id = key0)) false := ⟨decide_eq_false hid⟩
  refine calls_enter Try.func5 rfl _ Try.ntmps5 rfl ?_
  (repeat (first | refine go ?_ | refine goR ?_ | refine goS (fun yc hyc => ?_) | refine goL (fun _ _ => inferInstance) ?_ | with_reducible intro _ | refine goO (by first | omega | (simp only [List.length_cons, List.length_nil]; omega)) ?_ | fail))
  rename St => s0
  rename Nat => b0
  refine WC.loopW 18446603336221197312 (.one b0 32) (fun (i : Nat) f s => At f 10 (.int .i64 (i : Int)) ∧ i ≤ n ∧ ∃ A1 c1, Own s b0 32 (cats [#[.int .u32 0], #[.slice none 0 0], #[.slice A1 i c1], kc key0, #[.slice none 0 0], #[.slice none 0 0], #[.int .i64 0]]) ∧ Row s A1 i c1 26 otE ((vs.take i).map valO) ∧ RowNew s0 none A1) (fun i => n - i) 0
    ⟨At.to (.int .i64 0) rfl, Nat.zero_le _, none, 0, inferInstance, by rw [List.take_zero]; exact Row.nil_, ⟨nofun⟩⟩ ?_
  rintro i f s ha hs ⟨a10, hi, A1, c1, ho, hr, hrn⟩
  by_cases hlt : i < n
  · haveI : BV (decide ((i : Int) < (n : Int))) true := ⟨by simpa using hlt⟩
    haveI : IdxLt i n := ⟨hlt⟩
    haveI : Fits .i64 ((i : Int) + 1) := Fits.i64 (by omega) (by omega)
    have hv := vs[i]!.toNat_lt
    haveI : Fits .i64 (vs[i]!.toNat : Int) := Fits.i64 (by omega) (by omega)
    have hst : (vs.take (i + 1)).map valO = (vs.take i).map valO ++ [⟨Int64.ofInt (vs[i]!.toNat : Int), key0⟩] := by
      rw [take_snoc (by omega)]; simp [valO]
    (repeat (first | refine go ?_ | refine goR ?_ | refine goS (fun yc hyc => ?_) | refine goL (fun _ _ => inferInstance) ?_ | with_reducible intro _ | refine goO (by first | omega | (simp only [List.length_cons, List.length_nil]; omega)) ?_ | fail))
    refine WC.draw [9, 11] (.l 0 (.l 1 (.p 2 (.p 3 (.l 4 (.l 5 (.l 6 (.l 7 (.h 8 (.h 9 (.l 10 (.h 11 .nil)))))))))))) mixed (by decide +kernel) ?_
    (repeat' (first | refine go ?_ | refine goR ?_ | refine goS (fun yc hyc => ?_) | refine goL (fun _ _ => inferInstance) ?_ | refine goF ?_ ?_ | with_reducible intro _ | refine goO (by first | omega | (simp only [List.length_cons, List.length_nil]; omega)) ?_ | fail))
    all_goals exact loop_w (i + 1) ⟨At.to (.int .i64 ((i : Int) + 1)) (by simp), hlt, _, _, inferInstance, by rw [hst]; infer_instance, Gr.rn inferInstance⟩ (by omega)
  haveI : BV (decide ((i : Int) < (n : Int))) false := ⟨by simpa using hlt⟩
  have e : i = n := by omega
  subst e
  rw [take_all hl] at hr
  refine WC.freeze A1 (fun s2 hn2 hs2 => ?_)
  have hlo : (vs.map valO).length = i := by simp [hl]
  have hap := apply_made (t := (⟨UInt32.ofNat 0, ⟨none, 0, 0, []⟩, ⟨A1, i, c1, vs.map valO⟩, key0, ⟨none, 0, 0, []⟩, ⟨none, 0, 0, []⟩, Int64.ofInt ((0 : Nat) : Int)⟩ : Tx)) (id := id) (h := UInt32.ofNat 1) rfl (by rw [hlo]; omega)
  have hLl := outsM_len (t := (⟨UInt32.ofNat 0, ⟨none, 0, 0, []⟩, ⟨A1, i, c1, vs.map valO⟩, key0, ⟨none, 0, 0, []⟩, ⟨none, 0, 0, []⟩, Int64.ofInt ((0 : Nat) : Int)⟩ : Tx)) (id := id) (h := UInt32.ofNat 1)
  have hLat : ∀ j, j < i → (outsM (⟨UInt32.ofNat 0, ⟨none, 0, 0, []⟩, ⟨A1, i, c1, vs.map valO⟩, key0, ⟨none, 0, 0, []⟩, ⟨none, 0, 0, []⟩, Int64.ofInt ((0 : Nat) : Int)⟩ : Tx) id (UInt32.ofNat 1))[j]! = ⟨⟨id, UInt32.ofNat j⟩, valO vs[j]!, UInt32.ofNat 1, false⟩ := fun j hj => by
    rw [outsM_at (by rw [hlo]; exact hj)]
    have : (vs.map valO)[j]! = valO vs[j]! := by
      rw [getElem!_pos _ j (by omega), getElem!_pos vs j (by omega)]; simp
    rw [this]; rfl
  have hp1 : ∀ j m, j < i → m ≤ i → j < m → placeC ((outsM (⟨UInt32.ofNat 0, ⟨none, 0, 0, []⟩, ⟨A1, i, c1, vs.map valO⟩, key0, ⟨none, 0, 0, []⟩, ⟨none, 0, 0, []⟩, Int64.ofInt ((0 : Nat) : Int)⟩ : Tx) id (UInt32.ofNat 1)).take m) ⟨id, UInt32.ofNat j⟩ = some j := fun j m h1 h2 h3 => outsM_plc (by rw [hlo]; exact h1) (by rw [hlo]; omega) (by rw [hlo]; exact h2) h3
  have hp0 : ∀ j m, j ≤ i → m ≤ j → placeC ((outsM (⟨UInt32.ofNat 0, ⟨none, 0, 0, []⟩, ⟨A1, i, c1, vs.map valO⟩, key0, ⟨none, 0, 0, []⟩, ⟨none, 0, 0, []⟩, Int64.ofInt ((0 : Nat) : Int)⟩ : Tx) id (UInt32.ofNat 1)).take m) ⟨id, UInt32.ofNat j⟩ = none := fun j m h1 h2 => outsM_plc0 (by rw [hlo]; omega) (by rw [hlo]; exact h1) h2
  generalize outsM (⟨UInt32.ofNat 0, ⟨none, 0, 0, []⟩, ⟨A1, i, c1, vs.map valO⟩, key0, ⟨none, 0, 0, []⟩, ⟨none, 0, 0, []⟩, Int64.ofInt ((0 : Nat) : Int)⟩ : Tx) id (UInt32.ofNat 1) = L at hap hLl hLat hp1 hp0
  simp only [hlo] at hLl
  have hq : (⟨id, UInt32.ofNat ((i : Int) - 1).toNat⟩ : Pt) = ⟨id, UInt32.ofNat (i - 1)⟩ := by
    have : ((i : Int) - 1).toNat = i - 1 := by omega
    rw [this]
  have hfull : L.take i = L := List.take_of_length_le (by omega)
  have hpl := hp1 (i - 1) i (by omega) (Nat.le_refl _) (by omega)
  rw [hfull] at hpl
  have hripe : ∀ hu, ripe L[i - 1]! hu = true := fun hu => by rw [hLat (i - 1) (by omega)]; rfl
  haveI : Is (applyR [] (⟨UInt32.ofNat 0, ⟨none, 0, 0, []⟩, ⟨A1, i, c1, vs.map valO⟩, key0, ⟨none, 0, 0, []⟩, ⟨none, 0, 0, []⟩, Int64.ofInt ((0 : Nat) : Int)⟩ : Tx) id (UInt32.ofNat 1)) (L, [], 0) := ⟨hap⟩
  haveI : BV (decide ((L.length : Int) = (i : Int))) true := ⟨decide_eq_true (by omega)⟩
  haveI : ∀ B, Is (applyR L ⟨UInt32.ofNat 0, ⟨B, 1, 1, [⟨id, UInt32.ofNat ((i : Int) - 1).toNat⟩]⟩, ⟨none, 0, 0, []⟩, key0, ⟨none, 0, 0, []⟩, ⟨none, 0, 0, []⟩, Int64.ofInt ((0 : Nat) : Int)⟩ other (UInt32.ofNat 2)) (L.take (i - 1), [L[i - 1]!], 0) := fun B => ⟨(apply_take (p := ⟨id, UInt32.ofNat (i - 1)⟩) (by simp only [hq]) rfl hid hpl (hripe _)).trans (by
    have : L.drop (i - 1 + 1) = [] := List.drop_of_length_le (by omega)
    rw [this, List.append_nil])⟩
  haveI : ∀ B, Is (applyR (L.take (i - 1)) ⟨UInt32.ofNat 0, ⟨B, 1, 1, [⟨id, UInt32.ofNat ((i : Int) - 1).toNat⟩]⟩, ⟨none, 0, 0, []⟩, key0, ⟨none, 0, 0, []⟩, ⟨none, 0, 0, []⟩, Int64.ofInt ((0 : Nat) : Int)⟩ third (UInt32.ofNat 3)) ([], [], 160) := fun B => ⟨apply_no (p := ⟨id, UInt32.ofNat (i - 1)⟩) (by simp only [hq]) hid (hp0 (i - 1) (i - 1) (by omega) (Nat.le_refl _))⟩
  haveI : Fits .i64 ((i : Int) - 1) := Fits.i64 (by omega) (by omega)
  haveI : Fits .u32 ((i : Int) - 1) := Fits.u32 (by omega) (by omega)
  haveI : Fits .u32 (i : Int) := Fits.u32 (by omega) (by omega)
  have htl : (L.take (i - 1)).length = i - 1 := by simp; omega
  (repeat (first | refine go ?_ | refine goR ?_ | refine goS (fun yc hyc => ?_) | refine goL (fun _ _ => inferInstance) ?_ | with_reducible intro _ | refine goO (by first | omega | (simp only [List.length_cons, List.length_nil]; omega)) ?_ | fail))
  refine WC.loopW 730750818665451438819432812706471085880779997440 .no (fun (j : Nat) f s => At f 21 (.int .i64 (j : Int)) ∧ j ≤ i) (fun j => i - j) 0 ⟨At.to (.int .i64 0) rfl, Nat.zero_le _⟩ ?_
  rintro j f s ha3 hs3 ⟨a21, hj⟩
  by_cases hlt2 : j < i
  · haveI : BV (decide ((j : Int) < (i : Int))) true := ⟨by simpa using hlt2⟩
    haveI : IdxLt j i := ⟨hlt2⟩
    haveI : Fits .i64 ((j : Int) + 1) := Fits.i64 (by omega) (by omega)
    haveI : Fits .u32 (j : Int) := Fits.u32 (by omega) (by omega)
    have hv := vs[j]!.toNat_lt
    haveI : Fits .i64 (vs[j]!.toNat : Int) := Fits.i64 (by omega) (by omega)
    have hpj := hp1 j i hlt2 (Nat.le_refl _) hlt2
    rw [hfull] at hpj
    haveI : Is (placeC L ⟨id, UInt32.ofNat j⟩) (some j) := ⟨hpj⟩
    haveI : Is (Option.map (fun i => L[i]!) (some j)) (some L[j]!) := ⟨rfl⟩
    have hat := hLat j hlt2
    haveI : BV (decide (L[j]!.out.val.toInt = (vs[j]!.toNat : Int))) true := ⟨decide_eq_true (by
      rw [hat]
      show (Int64.ofInt (vs[j]!.toNat : Int)).toInt = _
      rw [Int64.toInt_ofInt_of_le (by omega) (by omega)])⟩
    haveI : BV (decide ((L[j]!.h.toNat : Int) = 1)) true := ⟨decide_eq_true (by rw [hat]; rfl)⟩
    haveI : BV L[j]!.base false := ⟨by rw [hat]⟩
    by_cases hlast : j < i - 1
    · haveI : BV (decide ((j : Int) < (i : Int) - 1)) true := ⟨decide_eq_true (by omega)⟩
      haveI : Is (placeC (L.take (i - 1)) ⟨id, UInt32.ofNat j⟩) (some j) := ⟨hp1 j (i - 1) hlt2 (by omega) hlast⟩
      haveI : Is (Option.map (fun k => (L.take (i - 1))[k]!) (some j)) (some (L.take (i - 1))[j]!) := ⟨rfl⟩
      (repeat (first | refine go ?_ | refine goR ?_ | refine goS (fun yc hyc => ?_) | refine goL (fun _ _ => inferInstance) ?_ | with_reducible intro _ | refine goO (by first | omega | (simp only [List.length_cons, List.length_nil]; omega)) ?_ | fail))
      refine WC.draw [] (.p 0 (.p 1 (.p 2 (.l 3 (.l 4 (.l 5 (.p 6 (.p 7 (.l 8 (.l 9 (.l 10 (.p 11 (.p 12 (.p 13 (.l 14 (.l 15 (.p 16 (.p 17 (.p 18 (.l 19 (.l 20 (.p 21 (.p 22 (.p 23 (.p 24 (.p 25 (.l 26 (.p 27 (.p 28 (.p 29 (.p 30 .nil))))))))))))))))))))))))))))))) mixed (by decide +kernel) ?_
      (repeat (first | refine go ?_ | refine goR ?_ | refine goS (fun yc hyc => ?_) | refine goL (fun _ _ => inferInstance) ?_ | with_reducible intro _ | refine goO (by first | omega | (simp only [List.length_cons, List.length_nil]; omega)) ?_ | fail))
      exact loop_w (j + 1) ⟨At.to (.int .i64 ((j : Int) + 1)) (by simp), hlt2⟩ (by omega)
    · haveI : BV (decide ((j : Int) < (i : Int) - 1)) false := ⟨decide_eq_false (by omega)⟩
      haveI : Is (placeC (L.take (i - 1)) ⟨id, UInt32.ofNat j⟩) none := ⟨hp0 j (i - 1) (by omega) (by omega)⟩
      haveI : Is (Option.map (fun k => (L.take (i - 1))[k]!) (none : Option Nat)) none := ⟨rfl⟩
      (repeat (first | refine go ?_ | refine goR ?_ | refine goS (fun yc hyc => ?_) | refine goL (fun _ _ => inferInstance) ?_ | with_reducible intro _ | refine goO (by first | omega | (simp only [List.length_cons, List.length_nil]; omega)) ?_ | fail))
      refine WC.draw [] (.p 0 (.p 1 (.p 2 (.l 3 (.l 4 (.l 5 (.p 6 (.p 7 (.l 8 (.l 9 (.l 10 (.p 11 (.p 12 (.p 13 (.l 14 (.l 15 (.p 16 (.p 17 (.p 18 (.l 19 (.l 20 (.p 21 (.p 22 (.p 23 (.p 24 (.p 25 (.l 26 (.p 27 (.p 28 (.p 29 (.p 30 .nil))))))))))))))))))))))))))))))) mixed (by decide +kernel) ?_
      (repeat (first | refine go ?_ | refine goR ?_ | refine goS (fun yc hyc => ?_) | refine goL (fun _ _ => inferInstance) ?_ | with_reducible intro _ | refine goO (by first | omega | (simp only [List.length_cons, List.length_nil]; omega)) ?_ | fail))
      exact loop_w (j + 1) ⟨At.to (.int .i64 ((j : Int) + 1)) (by simp), hlt2⟩ (by omega)
  haveI : BV (decide ((j : Int) < (i : Int))) false := ⟨by simpa using hlt2⟩
  have hpn := hp0 i i (Nat.le_refl _) (Nat.le_refl _)
  rw [hfull] at hpn
  haveI : Is (placeC L ⟨id, UInt32.ofNat i⟩) none := ⟨hpn⟩
  haveI : Is (Option.map (fun k => L[k]!) (none : Option Nat)) none := ⟨rfl⟩
  haveI : IdxLt 0 ([L[i - 1]!] : List Cn).length := ⟨by simp⟩
  haveI : BV (decide ((([L[i - 1]!] : List Cn).length : Int) = 1)) true := ⟨by simp⟩
  haveI : IdxLt (i - 1) i := ⟨by omega⟩
  haveI : LeN 1 i := ⟨by omega⟩
  have hv := vs[i - 1]!.toNat_lt
  haveI : Fits .i64 (vs[i - 1]!.toNat : Int) := Fits.i64 (by omega) (by omega)
  haveI : BV (decide (([L[i - 1]!] : List Cn)[0]!.out.val.toInt = (vs[i - 1]!.toNat : Int))) true := ⟨decide_eq_true (by
    show L[i - 1]!.out.val.toInt = _
    rw [hLat (i - 1) (by omega)]
    show (Int64.ofInt (vs[i - 1]!.toNat : Int)).toInt = _
    rw [Int64.toInt_ofInt_of_le (by omega) (by omega)])⟩
  (repeat (first | refine go ?_ | refine goR ?_ | refine goS (fun yc hyc => ?_) | refine goL (fun _ _ => inferInstance) ?_ | with_reducible intro _ | refine goO (by first | omega | (simp only [List.length_cons, List.length_nil]; omega)) ?_ | fail))
  refine WC.draw [] (.p 0 (.p 1 (.p 2 (.p 3 (.l 4 (.p 5 (.p 6 (.p 7 (.p 8 (.l 9 (.l 10 (.l 11 (.l 12 (.p 13 (.p 14 (.l 15 (.p 16 (.l 17 (.l 18 (.l 19 (.p 20 (.p 21 (.p 22 (.p 23 (.p 24 (.p 25 (.p 26 (.p 27 (.p 28 (.p 29 (.p 30 .nil))))))))))))))))))))))))))))))) mixed (by decide +kernel) ?_
  (repeat (first | refine go ?_ | refine goR ?_ | refine goS (fun yc hyc => ?_) | refine goL (fun _ _ => inferInstance) ?_ | with_reducible intro _ | refine goO (by first | omega | (simp only [List.length_cons, List.length_nil]; omega)) ?_ | fail))
  exact backN (σ0 := σ) Try.results5 (fun σ' _ _ => hK σ' inferInstance)⟩
end
end Go.Proofs.Ytpnbfohdfffolaa
