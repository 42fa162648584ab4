/- The laws NullsBack, NullsTwice, NullsEmpty, by contract. No condition. -/
import Derived.Test.YtlcpjfeomlegpaaN3
import Derived.Test.YtlcpjfeomlegpaaN4
set_option linter.all false
set_option maxHeartbeats 40000000
set_option synthInstance.maxHeartbeats 2000000
set_option synthInstance.maxSize 100000
namespace Go.Proofs.Ytlcpjfeomlegpaa
open Go Go.RowKit
instance bi3 : BV (decide ((([] : List Key).length : Int) = 0)) true := ⟨by simp⟩
section
variable {σ : St} {A B : Option Addr} {n c m d : Nat} {xs ys : List Key} {k : Key}
instance rule_NullsEmpty [h : SL σ A n c keyE xs] : CallRule Try.prog 6 [.slice A n c, .agg (kc k)] σ (fun K _ => ∀ σ', Nx σ σ' .no → K (.bool true) σ') := ⟨fun K E hK => by
  have hl := h.len
  by_cases hn : 100 < n
  · haveI : BV (decide ((100 : Int) < (n : Int))) true := ⟨by simp; omega⟩
    refine calls_enter Try.func6 rfl _ Try.ntmps6 rfl ?_
    (repeat (first | refine go ?_ | refine goR ?_ | refine goS (fun yc hyc => ?_) | refine goL (fun _ _ => inferInstance) ?_ | with_reducible intro _ | refine goO (by first | omega | (simp only [List.length_cons, List.length_nil]; omega)) ?_ | fail))
    exact backN (σ0 := σ) Try.results6 (fun σ' _ _ => hK σ' inferInstance)
  haveI : BV (decide ((100 : Int) < (n : Int))) false := ⟨by simp; omega⟩
  cases hd : distK xs with
  | false =>
    haveI : Is (spendM [] xs) none := ⟨by rw [spend_nil, hd]; rfl⟩
    haveI : BV (distK xs) false := ⟨hd⟩
    refine calls_enter Try.func6 rfl _ Try.ntmps6 rfl ?_
    (repeat (first | refine go ?_ | refine goR ?_ | refine goS (fun yc hyc => ?_) | refine goL (fun _ _ => inferInstance) ?_ | with_reducible intro _ | refine goO (by first | omega | (simp only [List.length_cons, List.length_nil]; omega)) ?_ | fail))
    exact backN (σ0 := σ) Try.results6 (fun σ' _ _ => hK σ' inferInstance)
  | true =>
    have hsp : spendM [] xs = some (xs.foldl insK []) := by rw [spend_nil, hd]; rfl
    generalize hz : xs.foldl insK [] = zs at hsp
    haveI : Is (spendM [] xs) (some zs) := ⟨hsp⟩
    have ok := spend_ok srt_nil rfl hsp
    have hlen : zs.length = n := by rw [ok.len, hl]; simp
    haveI : Is (spendM zs []) (some zs) := ⟨by
      unfold spendM
      have : meetK zs [] = false := by
        rw [Bool.eq_false_iff]; intro h; obtain ⟨_, _, h⟩ := meetK_iff.1 h; simp at h
      rw [this]; rfl⟩
    haveI : BV (freeM zs []) true := ⟨by
      unfold freeM
      have : meetK zs [] = false := by
        rw [Bool.eq_false_iff]; intro h; obtain ⟨_, _, h⟩ := meetK_iff.1 h; simp at h
      rw [this]; rfl⟩
    haveI : Is (undoM zs []) (some zs) := ⟨rfl⟩
    haveI : Is (undoM zs xs) (some []) := ⟨undo_spend srt_nil rfl hsp⟩
    have hk : hasK zs k = hasK xs k := by rw [ok.has]; simp [hasK]
    cases hh : hasK xs k with
    | true =>
      haveI : Is (undoM zs [k]) (some (remK zs k)) := ⟨by show (if hasK zs k then _ else _) = _; rw [if_pos (by rw [hk, hh])]; rfl⟩
      haveI : BV (hasK xs k) true := ⟨hh⟩
      refine calls_enter Try.func6 rfl _ Try.ntmps6 rfl ?_
      (repeat (first | refine go ?_ | refine goR ?_ | refine goS (fun yc hyc => ?_) | refine goL (fun _ _ => inferInstance) ?_ | with_reducible intro _ | refine goO (by first | omega | (simp only [List.length_cons, List.length_nil]; omega)) ?_ | fail))
      exact backN (σ0 := σ) Try.results6 (fun σ' _ _ => hK σ' inferInstance)
    | false =>
      haveI : Is (undoM zs [k]) none := ⟨by show (if hasK zs k then _ else _) = _; rw [if_neg (by rw [hk, hh]; simp)]⟩
      haveI : BV (hasK xs k) false := ⟨hh⟩
      refine calls_enter Try.func6 rfl _ Try.ntmps6 rfl ?_
      (repeat (first | refine go ?_ | refine goR ?_ | refine goS (fun yc hyc => ?_) | refine goL (fun _ _ => inferInstance) ?_ | with_reducible intro _ | refine goO (by first | omega | (simp only [List.length_cons, List.length_nil]; omega)) ?_ | fail))
      exact backN (σ0 := σ) Try.results6 (fun σ' _ _ => hK σ' inferInstance)⟩
theorem back_rest {zs : List Key} {o : Option (List Key)} {e : Int} (h : OptKs o zs) : o.getD [] = zs := h.eq
instance rule_NullsBack [h : SL σ A n c keyE xs] [g : SL σ B m d keyE ys] : CallRule Try.prog 4 [.slice A n c, .slice B m d, .agg (kc k)] σ (fun K _ => ∀ σ', Nx σ σ' .no → K (.bool true) σ') := ⟨fun K E hK => by
  have hl := h.len
  have gl := g.len
  by_cases hn : 200 < n
  · haveI : BV (decide ((200 : Int) < (n : Int))) true := ⟨by simp; omega⟩
    refine calls_enter Try.func4 rfl _ Try.ntmps4 rfl ?_
    (repeat (first | refine go ?_ | refine goR ?_ | refine goS (fun yc hyc => ?_) | refine goL (fun _ _ => inferInstance) ?_ | with_reducible intro _ | refine goO (by first | omega | (simp only [List.length_cons, List.length_nil]; omega)) ?_ | fail))
    exact backN (σ0 := σ) Try.results4 (fun σ' _ _ => hK σ' inferInstance)
  haveI : BV (decide ((200 : Int) < (n : Int))) false := ⟨by simp; omega⟩
  by_cases hm : 200 < m
  · haveI : BV (decide ((200 : Int) < (m : Int))) true := ⟨by simp; omega⟩
    refine calls_enter Try.func4 rfl _ Try.ntmps4 rfl ?_
    (repeat (first | refine go ?_ | refine goR ?_ | refine goS (fun yc hyc => ?_) | refine goL (fun _ _ => inferInstance) ?_ | with_reducible intro _ | refine goO (by first | omega | (simp only [List.length_cons, List.length_nil]; omega)) ?_ | fail))
    exact backN (σ0 := σ) Try.results4 (fun σ' _ _ => hK σ' inferInstance)
  haveI : BV (decide ((200 : Int) < (m : Int))) false := ⟨by simp; omega⟩
  obtain ⟨zs, ev, hzs, hev, he0, hs, hd, hzl⟩ : ∃ zs ev, OptKs (spendM [] (ksort xs)) zs ∧ OptE (spendM [] (ksort xs)) 161 ev ∧ decide (ev = 0) = distK xs ∧ Srt kcmp zs ∧ distK zs = true ∧ zs.length ≤ 200 := by
    rw [spend_nil, dist_ksort]
    cases hd : distK xs with
    | false => exact ⟨[], 161, inferInstance, inferInstance, rfl, srt_nil, rfl, by simp⟩
    | true =>
      have hsp : spendM [] (ksort xs) = some ((ksort xs).foldl insK []) := by rw [spend_nil, dist_ksort, hd]; rfl
      have ok := spend_ok srt_nil rfl hsp
      refine ⟨(ksort xs).foldl insK [], 0, ⟨rfl⟩, ⟨rfl⟩, rfl, ok.srt, ok.dist, ?_⟩
      rw [ok.len, ksort_length]; simp; omega
  haveI : BV (decide (ev = 0)) (distK xs) := ⟨he0⟩
  cases hsp : spendM zs ys with
  | none =>
    haveI : Is (spendM zs ys) none := ⟨hsp⟩
    refine calls_enter Try.func4 rfl _ Try.ntmps4 rfl ?_
    (repeat (first | refine go ?_ | refine goR ?_ | refine goS (fun yc hyc => ?_) | refine goL (fun _ _ => inferInstance) ?_ | with_reducible intro _ | refine goO (by first | omega | (simp only [List.length_cons, List.length_nil]; omega)) ?_ | fail))
    exact backN (σ0 := σ) Try.results4 (fun σ' _ _ => hK σ' inferInstance)
  | some ts =>
    haveI : Is (spendM zs ys) (some ts) := ⟨hsp⟩
    have ok := spend_ok hs hd hsp
    have htl : ts.length = zs.length + m := by rw [ok.len, gl]
    haveI : Is (undoM ts ys) (some zs) := ⟨undo_spend hs hd hsp⟩
    haveI : Fits .i64 ((zs.length : Int) + (m : Int)) := Fits.i64 (by omega) (by omega)
    haveI : BV (decide ((ts.length : Int) = (zs.length : Int) + (m : Int))) true := ⟨by simp; omega⟩
    have hfr : freeM ts [k] = !(hasK zs k || hasK ys k) := by
      unfold freeM; rw [meet_one, ok.has]; simp [distK]
    by_cases hm0 : m = 0
    · haveI : BV (decide ((m : Int) = 0)) true := ⟨by simpa using hm0⟩
      cases h1 : hasK zs k with
      | true =>
        haveI : BV (hasK zs k) true := ⟨h1⟩
        haveI : BV (freeM ts [k]) false := ⟨by rw [hfr, h1]; simp⟩
        refine calls_enter Try.func4 rfl _ Try.ntmps4 rfl ?_
        (repeat (first | refine go ?_ | refine goR ?_ | refine goS (fun yc hyc => ?_) | refine goL (fun _ _ => inferInstance) ?_ | with_reducible intro _ | refine goO (by first | omega | (simp only [List.length_cons, List.length_nil]; omega)) ?_ | fail))
        exact backN (σ0 := σ) Try.results4 (fun σ' _ _ => hK σ' inferInstance)
      | false =>
        haveI : BV (hasK zs k) false := ⟨h1⟩
        cases h2 : hasK ys k with
        | true =>
          haveI : BV (hasK ys k) true := ⟨h2⟩
          haveI : BV (freeM ts [k]) false := ⟨by rw [hfr, h1, h2]; simp⟩
          refine calls_enter Try.func4 rfl _ Try.ntmps4 rfl ?_
          (repeat (first | refine go ?_ | refine goR ?_ | refine goS (fun yc hyc => ?_) | refine goL (fun _ _ => inferInstance) ?_ | with_reducible intro _ | refine goO (by first | omega | (simp only [List.length_cons, List.length_nil]; omega)) ?_ | fail))
          exact backN (σ0 := σ) Try.results4 (fun σ' _ _ => hK σ' inferInstance)
        | false =>
          haveI : BV (hasK ys k) false := ⟨h2⟩
          haveI : BV (freeM ts [k]) true := ⟨by rw [hfr, h1, h2]; simp⟩
          refine calls_enter Try.func4 rfl _ Try.ntmps4 rfl ?_
          (repeat (first | refine go ?_ | refine goR ?_ | refine goS (fun yc hyc => ?_) | refine goL (fun _ _ => inferInstance) ?_ | with_reducible intro _ | refine goO (by first | omega | (simp only [List.length_cons, List.length_nil]; omega)) ?_ | fail))
          exact backN (σ0 := σ) Try.results4 (fun σ' _ _ => hK σ' inferInstance)
    · haveI : BV (decide ((m : Int) = 0)) false := ⟨by simpa using hm0⟩
      haveI : BV (freeM ts ys) false := ⟨by
        unfold freeM
        have : meetK ts ys = true := meetK_iff.2 ⟨ys[0]!, by
          have hy : ys[0]! ∈ ys := by rw [getElem!_pos ys 0 (by omega)]; exact List.getElem_mem _
          exact ⟨hasK_iff.1 (has_spent hs hd hsp hy), hy⟩⟩
        rw [this]; rfl⟩
      cases h1 : hasK zs k with
      | true =>
        haveI : BV (hasK zs k) true := ⟨h1⟩
        haveI : BV (freeM ts [k]) false := ⟨by rw [hfr, h1]; simp⟩
        refine calls_enter Try.func4 rfl _ Try.ntmps4 rfl ?_
        (repeat (first | refine go ?_ | refine goR ?_ | refine goS (fun yc hyc => ?_) | refine goL (fun _ _ => inferInstance) ?_ | with_reducible intro _ | refine goO (by first | omega | (simp only [List.length_cons, List.length_nil]; omega)) ?_ | fail))
        exact backN (σ0 := σ) Try.results4 (fun σ' _ _ => hK σ' inferInstance)
      | false =>
        haveI : BV (hasK zs k) false := ⟨h1⟩
        cases h2 : hasK ys k with
        | true =>
          haveI : BV (hasK ys k) true := ⟨h2⟩
          haveI : BV (freeM ts [k]) false := ⟨by rw [hfr, h1, h2]; simp⟩
          refine calls_enter Try.func4 rfl _ Try.ntmps4 rfl ?_
          (repeat (first | refine go ?_ | refine goR ?_ | refine goS (fun yc hyc => ?_) | refine goL (fun _ _ => inferInstance) ?_ | with_reducible intro _ | refine goO (by first | omega | (simp only [List.length_cons, List.length_nil]; omega)) ?_ | fail))
          exact backN (σ0 := σ) Try.results4 (fun σ' _ _ => hK σ' inferInstance)
        | false =>
          haveI : BV (hasK ys k) false := ⟨h2⟩
          haveI : BV (freeM ts [k]) true := ⟨by rw [hfr, h1, h2]; simp⟩
          refine calls_enter Try.func4 rfl _ Try.ntmps4 rfl ?_
          (repeat (first | refine go ?_ | refine goR ?_ | refine goS (fun yc hyc => ?_) | refine goL (fun _ _ => inferInstance) ?_ | with_reducible intro _ | refine goO (by first | omega | (simp only [List.length_cons, List.length_nil]; omega)) ?_ | fail))
          exact backN (σ0 := σ) Try.results4 (fun σ' _ _ => hK σ' inferInstance)⟩
theorem twice_no {l b : List Key} {x : Key} (h : spendM [] l = some b) (hx : x ∈ l) : spendM b [x] = none ∧ undoM b ([x] ++ [x]) = none := by
  have ok := spend_ok srt_nil rfl h
  have hh := has_spent srt_nil rfl h hx
  constructor
  · unfold spendM
    rw [meet_one, hh]; rfl
  · show (if hasK b x then (if hasK (remK b x) x then _ else none) else none) = none
    rw [if_pos hh, if_neg (by rw [has_remK ok.dist]; simp)]
instance rule_NullsTwice [h : SL σ A n c keyE xs] [g : SL σ B m d keyE ys] {j : UInt8} : CallRule Try.prog 5 [.slice A n c, .slice B m d, .int .u8 (j.toNat : Int)] σ (fun K _ => ∀ σ', Nx σ σ' .no → K (.bool true) σ') := ⟨fun K E hK => by
  have hl := h.len
  have gl := g.len
  by_cases hn : 100 < n
  · haveI : BV (decide ((100 : Int) < (n : Int))) true := ⟨by simp; omega⟩
    refine calls_enter Try.func5 rfl _ Try.ntmps5 rfl ?_
    (repeat (first | refine go ?_ | refine goR ?_ | refine goS (fun yc hyc => ?_) | refine goL (fun _ _ => inferInstance) ?_ | with_reducible intro _ | refine goO (by first | omega | (simp only [List.length_cons, List.length_nil]; omega)) ?_ | fail))
    exact backN (σ0 := σ) Try.results5 (fun σ' _ _ => hK σ' inferInstance)
  haveI : BV (decide ((100 : Int) < (n : Int))) false := ⟨by simp; omega⟩
  by_cases hm : 100 < m
  · haveI : BV (decide ((100 : Int) < (m : Int))) true := ⟨by simp; omega⟩
    refine calls_enter Try.func5 rfl _ Try.ntmps5 rfl ?_
    (repeat (first | refine go ?_ | refine goR ?_ | refine goS (fun yc hyc => ?_) | refine goL (fun _ _ => inferInstance) ?_ | with_reducible intro _ | refine goO (by first | omega | (simp only [List.length_cons, List.length_nil]; omega)) ?_ | fail))
    exact backN (σ0 := σ) Try.results5 (fun σ' _ _ => hK σ' inferInstance)
  haveI : BV (decide ((100 : Int) < (m : Int))) false := ⟨by simp; omega⟩
  have happ := spend_app xs ys
  haveI : Fits .i64 (j.toNat : Int) := Fits.i64 (by omega) (by have := j.toNat_lt; omega)
  by_cases h0 : n = 0
  · haveI : BV (decide ((n : Int) = 0)) true := ⟨by simpa using h0⟩
    cases hb : spendM [] xs with
    | none =>
      rw [hb] at happ
      haveI : Is (spendM [] xs) none := ⟨hb⟩
      haveI : Is (spendM [] ([] ++ xs ++ ys)) none := ⟨happ⟩
      refine calls_enter Try.func5 rfl _ Try.ntmps5 rfl ?_
      (repeat (first | refine go ?_ | refine goS (fun yc hyc => ?_) | refine goL (fun _ _ => inferInstance) ?_ | with_reducible intro _ | refine goO (by first | omega | (simp only [List.length_cons, List.length_nil]; omega)) ?_ | fail))
      refine goR ?_
      (repeat (first | refine go ?_ | refine goS (fun yc hyc => ?_) | refine goL (fun _ _ => inferInstance) ?_ | with_reducible intro _ | refine goO (by first | omega | (simp only [List.length_cons, List.length_nil]; omega)) ?_ | fail))
      refine goR ?_
      (repeat (first | refine go ?_ | refine goS (fun yc hyc => ?_) | refine goL (fun _ _ => inferInstance) ?_ | with_reducible intro _ | refine goO (by first | omega | (simp only [List.length_cons, List.length_nil]; omega)) ?_ | fail))
      refine goR ?_
      (repeat (first | refine go ?_ | refine goS (fun yc hyc => ?_) | refine goL (fun _ _ => inferInstance) ?_ | with_reducible intro _ | refine goO (by first | omega | (simp only [List.length_cons, List.length_nil]; omega)) ?_ | fail))
      rename Option Addr => A0
      refine WC.freeze A0 (fun s1 hn1 hs1 => ?_)
      (repeat (first | refine go ?_ | refine goR ?_ | refine goS (fun yc hyc => ?_) | refine goL (fun _ _ => inferInstance) ?_ | with_reducible intro _ | refine goO (by first | omega | (simp only [List.length_cons, List.length_nil]; omega)) ?_ | fail))
      exact backN (σ0 := σ) Try.results5 (fun σ' _ _ => hK σ' inferInstance)
    | some b =>
      rw [hb] at happ
      have hlb := (spend_ok srt_nil rfl hb).len
      simp only [List.length_nil, Nat.zero_add] at hlb
      haveI : Is (spendM [] xs) (some b) := ⟨hb⟩
      cases hc : spendM b ys with
      | none =>
        haveI : Is (spendM b ys) none := ⟨hc⟩
        haveI : Is (spendM [] ([] ++ xs ++ ys)) none := ⟨happ.trans hc⟩
        refine calls_enter Try.func5 rfl _ Try.ntmps5 rfl ?_
        (repeat (first | refine go ?_ | refine goS (fun yc hyc => ?_) | refine goL (fun _ _ => inferInstance) ?_ | with_reducible intro _ | refine goO (by first | omega | (simp only [List.length_cons, List.length_nil]; omega)) ?_ | fail))
        refine goR ?_
        (repeat (first | refine go ?_ | refine goS (fun yc hyc => ?_) | refine goL (fun _ _ => inferInstance) ?_ | with_reducible intro _ | refine goO (by first | omega | (simp only [List.length_cons, List.length_nil]; omega)) ?_ | fail))
        refine goR ?_
        (repeat (first | refine go ?_ | refine goS (fun yc hyc => ?_) | refine goL (fun _ _ => inferInstance) ?_ | with_reducible intro _ | refine goO (by first | omega | (simp only [List.length_cons, List.length_nil]; omega)) ?_ | fail))
        refine goR ?_
        (repeat (first | refine go ?_ | refine goS (fun yc hyc => ?_) | refine goL (fun _ _ => inferInstance) ?_ | with_reducible intro _ | refine goO (by first | omega | (simp only [List.length_cons, List.length_nil]; omega)) ?_ | fail))
        rename Option Addr => A0
        refine WC.freeze A0 (fun s1 hn1 hs1 => ?_)
        (repeat (first | refine go ?_ | refine goR ?_ | refine goS (fun yc hyc => ?_) | refine goL (fun _ _ => inferInstance) ?_ | with_reducible intro _ | refine goO (by first | omega | (simp only [List.length_cons, List.length_nil]; omega)) ?_ | fail))
        exact backN (σ0 := σ) Try.results5 (fun σ' _ _ => hK σ' inferInstance)
      | some a =>
        haveI : Is (spendM b ys) (some a) := ⟨hc⟩
        haveI : Is (spendM [] ([] ++ xs ++ ys)) (some a) := ⟨happ.trans hc⟩
        refine calls_enter Try.func5 rfl _ Try.ntmps5 rfl ?_
        (repeat (first | refine go ?_ | refine goS (fun yc hyc => ?_) | refine goL (fun _ _ => inferInstance) ?_ | with_reducible intro _ | refine goO (by first | omega | (simp only [List.length_cons, List.length_nil]; omega)) ?_ | fail))
        refine goR ?_
        (repeat (first | refine go ?_ | refine goS (fun yc hyc => ?_) | refine goL (fun _ _ => inferInstance) ?_ | with_reducible intro _ | refine goO (by first | omega | (simp only [List.length_cons, List.length_nil]; omega)) ?_ | fail))
        refine goR ?_
        (repeat (first | refine go ?_ | refine goS (fun yc hyc => ?_) | refine goL (fun _ _ => inferInstance) ?_ | with_reducible intro _ | refine goO (by first | omega | (simp only [List.length_cons, List.length_nil]; omega)) ?_ | fail))
        refine goR ?_
        (repeat (first | refine go ?_ | refine goS (fun yc hyc => ?_) | refine goL (fun _ _ => inferInstance) ?_ | with_reducible intro _ | refine goO (by first | omega | (simp only [List.length_cons, List.length_nil]; omega)) ?_ | fail))
        rename Option Addr => A0
        refine WC.freeze A0 (fun s1 hn1 hs1 => ?_)
        (repeat (first | refine go ?_ | refine goR ?_ | refine goS (fun yc hyc => ?_) | refine goL (fun _ _ => inferInstance) ?_ | with_reducible intro _ | refine goO (by first | omega | (simp only [List.length_cons, List.length_nil]; omega)) ?_ | fail))
        exact backN (σ0 := σ) Try.results5 (fun σ' _ _ => hK σ' inferInstance)
  · haveI : BV (decide ((n : Int) = 0)) false := ⟨by simpa using h0⟩
    haveI : PosN n := ⟨by omega⟩
    haveI : IdxLt (j.toNat % n) n := ⟨Nat.mod_lt _ (by omega)⟩
    cases hb : spendM [] xs with
    | none =>
      rw [hb] at happ
      haveI : Is (spendM [] xs) none := ⟨hb⟩
      haveI : Is (spendM [] ([] ++ xs ++ ys)) none := ⟨happ⟩
      refine calls_enter Try.func5 rfl _ Try.ntmps5 rfl ?_
      (repeat (first | refine go ?_ | refine goS (fun yc hyc => ?_) | refine goL (fun _ _ => inferInstance) ?_ | with_reducible intro _ | refine goO (by first | omega | (simp only [List.length_cons, List.length_nil]; omega)) ?_ | fail))
      refine goR ?_
      (repeat (first | refine go ?_ | refine goS (fun yc hyc => ?_) | refine goL (fun _ _ => inferInstance) ?_ | with_reducible intro _ | refine goO (by first | omega | (simp only [List.length_cons, List.length_nil]; omega)) ?_ | fail))
      refine goR ?_
      (repeat (first | refine go ?_ | refine goS (fun yc hyc => ?_) | refine goL (fun _ _ => inferInstance) ?_ | with_reducible intro _ | refine goO (by first | omega | (simp only [List.length_cons, List.length_nil]; omega)) ?_ | fail))
      refine goR ?_
      (repeat (first | refine go ?_ | refine goS (fun yc hyc => ?_) | refine goL (fun _ _ => inferInstance) ?_ | with_reducible intro _ | refine goO (by first | omega | (simp only [List.length_cons, List.length_nil]; omega)) ?_ | fail))
      rename Option Addr => A0
      refine WC.freeze A0 (fun s1 hn1 hs1 => ?_)
      (repeat (first | refine go ?_ | refine goR ?_ | refine goS (fun yc hyc => ?_) | refine goL (fun _ _ => inferInstance) ?_ | with_reducible intro _ | refine goO (by first | omega | (simp only [List.length_cons, List.length_nil]; omega)) ?_ | fail))
      exact backN (σ0 := σ) Try.results5 (fun σ' _ _ => hK σ' inferInstance)
    | some b =>
      rw [hb] at happ
      have hlb := (spend_ok srt_nil rfl hb).len
      simp only [List.length_nil, Nat.zero_add] at hlb
      haveI : Is (spendM [] xs) (some b) := ⟨hb⟩
      have hx : xs[j.toNat % n]! ∈ xs := by
        have : j.toNat % n < xs.length := by rw [hl]; exact Nat.mod_lt _ (by omega)
        rw [getElem!_pos xs _ this]; exact List.getElem_mem _
      haveI : Is (spendM b [xs[j.toNat % n]!]) none := ⟨(twice_no hb hx).1⟩
      haveI : Is (undoM b ([xs[j.toNat % n]!] ++ [xs[j.toNat % n]!])) none := ⟨(twice_no hb hx).2⟩
      cases hc : spendM b ys with
      | none =>
        haveI : Is (spendM b ys) none := ⟨hc⟩
        haveI : Is (spendM [] ([] ++ xs ++ ys)) none := ⟨happ.trans hc⟩
        refine calls_enter Try.func5 rfl _ Try.ntmps5 rfl ?_
        (repeat (first | refine go ?_ | refine goS (fun yc hyc => ?_) | refine goL (fun _ _ => inferInstance) ?_ | with_reducible intro _ | refine goO (by first | omega | (simp only [List.length_cons, List.length_nil]; omega)) ?_ | fail))
        refine goR ?_
        (repeat (first | refine go ?_ | refine goS (fun yc hyc => ?_) | refine goL (fun _ _ => inferInstance) ?_ | with_reducible intro _ | refine goO (by first | omega | (simp only [List.length_cons, List.length_nil]; omega)) ?_ | fail))
        refine goR ?_
        (repeat (first | refine go ?_ | refine goS (fun yc hyc => ?_) | refine goL (fun _ _ => inferInstance) ?_ | with_reducible intro _ | refine goO (by first | omega | (simp only [List.length_cons, List.length_nil]; omega)) ?_ | fail))
        refine goR ?_
        (repeat (first | refine go ?_ | refine goS (fun yc hyc => ?_) | refine goL (fun _ _ => inferInstance) ?_ | with_reducible intro _ | refine goO (by first | omega | (simp only [List.length_cons, List.length_nil]; omega)) ?_ | fail))
        rename Option Addr => A0
        refine WC.freeze A0 (fun s1 hn1 hs1 => ?_)
        (repeat (first | refine go ?_ | refine goR ?_ | refine goS (fun yc hyc => ?_) | refine goL (fun _ _ => inferInstance) ?_ | with_reducible intro _ | refine goO (by first | omega | (simp only [List.length_cons, List.length_nil]; omega)) ?_ | fail))
        refine WC.draw [19] (.p 0 (.p 1 (.p 2 (.p 3 (.p 4 (.p 5 (.p 6 (.l 7 (.l 8 (.p 10 (.p 11 (.p 12 (.p 13 (.p 14 (.p 15 (.l 16 (.l 17 (.f 9 (.h 18 (.h 19 (.h 20 (.p 21 (.p 22 (.p 23 (.p 24 (.p 25 .nil)))))))) 18 (.h 9 (.h 19 (.h 20 (.p 21 (.p 22 (.p 23 (.p 24 (.p 25 .nil)))))))))))))))))))))))))) mixed (by decide +kernel) ?_
        (repeat' (first | refine go ?_ | refine goR ?_ | refine goS (fun yc hyc => ?_) | refine goL (fun _ _ => inferInstance) ?_ | refine goF ?_ ?_ | with_reducible intro _ | refine goO (by first | omega | (simp only [List.length_cons, List.length_nil]; omega)) ?_ | fail))
        all_goals (rename Option Addr => A9; refine Wo.freeze A9 (fun _ _ _ => ?_); (repeat (first | refine go ?_ | refine goR ?_ | refine goS (fun yc hyc => ?_) | refine goL (fun _ _ => inferInstance) ?_ | with_reducible intro _ | refine goO (by first | omega | (simp only [List.length_cons, List.length_nil]; omega)) ?_ | fail)))
        all_goals exact backN (σ0 := σ) Try.results5 (fun σ' _ _ => hK σ' inferInstance)
      | some a =>
        haveI : Is (spendM b ys) (some a) := ⟨hc⟩
        haveI : Is (spendM [] ([] ++ xs ++ ys)) (some a) := ⟨happ.trans hc⟩
        refine calls_enter Try.func5 rfl _ Try.ntmps5 rfl ?_
        (repeat (first | refine go ?_ | refine goS (fun yc hyc => ?_) | refine goL (fun _ _ => inferInstance) ?_ | with_reducible intro _ | refine goO (by first | omega | (simp only [List.length_cons, List.length_nil]; omega)) ?_ | fail))
        refine goR ?_
        (repeat (first | refine go ?_ | refine goS (fun yc hyc => ?_) | refine goL (fun _ _ => inferInstance) ?_ | with_reducible intro _ | refine goO (by first | omega | (simp only [List.length_cons, List.length_nil]; omega)) ?_ | fail))
        refine goR ?_
        (repeat (first | refine go ?_ | refine goS (fun yc hyc => ?_) | refine goL (fun _ _ => inferInstance) ?_ | with_reducible intro _ | refine goO (by first | omega | (simp only [List.length_cons, List.length_nil]; omega)) ?_ | fail))
        refine goR ?_
        (repeat (first | refine go ?_ | refine goS (fun yc hyc => ?_) | refine goL (fun _ _ => inferInstance) ?_ | with_reducible intro _ | refine goO (by first | omega | (simp only [List.length_cons, List.length_nil]; omega)) ?_ | fail))
        rename Option Addr => A0
        refine WC.freeze A0 (fun s1 hn1 hs1 => ?_)
        (repeat (first | refine go ?_ | refine goR ?_ | refine goS (fun yc hyc => ?_) | refine goL (fun _ _ => inferInstance) ?_ | with_reducible intro _ | refine goO (by first | omega | (simp only [List.length_cons, List.length_nil]; omega)) ?_ | fail))
        refine WC.draw [19] (.p 0 (.p 1 (.p 2 (.p 3 (.p 4 (.p 5 (.p 6 (.l 7 (.l 8 (.p 10 (.p 11 (.p 12 (.p 13 (.p 14 (.p 15 (.l 16 (.l 17 (.f 9 (.h 18 (.h 19 (.h 20 (.p 21 (.p 22 (.p 23 (.p 24 (.p 25 .nil)))))))) 18 (.h 9 (.h 19 (.h 20 (.p 21 (.p 22 (.p 23 (.p 24 (.p 25 .nil)))))))))))))))))))))))))) mixed (by decide +kernel) ?_
        (repeat' (first | refine go ?_ | refine goR ?_ | refine goS (fun yc hyc => ?_) | refine goL (fun _ _ => inferInstance) ?_ | refine goF ?_ ?_ | with_reducible intro _ | refine goO (by first | omega | (simp only [List.length_cons, List.length_nil]; omega)) ?_ | fail))
        all_goals (rename Option Addr => A9; refine Wo.freeze A9 (fun _ _ _ => ?_); (repeat (first | refine go ?_ | refine goR ?_ | refine goS (fun yc hyc => ?_) | refine goL (fun _ _ => inferInstance) ?_ | with_reducible intro _ | refine goO (by first | omega | (simp only [List.length_cons, List.length_nil]; omega)) ?_ | fail)))
        all_goals exact backN (σ0 := σ) Try.results5 (fun σ' _ _ => hK σ' inferInstance)⟩
end
end Go.Proofs.Ytlcpjfeomlegpaa
