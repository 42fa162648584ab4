/- The laws CoinsBack, CoinsKept, by contract. No condition. -/
import Derived.Test.YtpnbfohdfffolaaCa
import Derived.Test.YtpnbfohdfffolaaCb
import Derived.Test.YtpnbfohdfffolaaEi
set_option linter.all false
set_option maxHeartbeats 40000000
set_option synthInstance.maxHeartbeats 2000000
set_option synthInstance.maxSize 100000
namespace Go.Proofs.Ytpnbfohdfffolaa
open Go Go.RowKit
instance bic1 : BV (decide ((([] : List Cn).length : Int) = 0)) true := ⟨by simp⟩
instance bic2 : BV (decide ((160 : Int) = 0)) false := ⟨by decide⟩
instance bic3 : BV (decide ((4 : Int) = 0)) false := ⟨by decide⟩
instance bic4 : BV (decide ((4 : Int) = 160)) false := ⟨by decide⟩
theorem minL_le4 (a b c d : Nat) : minL [a, b, c, d] ≤ a ∧ minL [a, b, c, d] ≤ b ∧ minL [a, b, c, d] ≤ c ∧ minL [a, b, c, d] ≤ d := by simp [minL]; omega
theorem minL_le3 (a b c : Nat) : minL [a, b, c] ≤ a ∧ minL [a, b, c] ≤ b ∧ minL [a, b, c] ≤ c := by simp [minL]; omega
section
variable {σ : St} {A B C : Option Addr} {n c m d b k e : Nat} {xs : List Tx} {ks : List Key} {hs : List UInt8} {p q : Pt} {v1 v2 : Value} {t : Tx} {id : Key} {hh : UInt32}
instance rule_CoinsBack [h : SL σ A n c txE xs] [g : SL σ B m d keyE ks] [h2 : SL σ C k e u8E hs] : CallRule Try.prog 7 [.slice A n c, .slice B m d, .slice C k e] σ (fun K _ => ∀ σ', Nx σ σ' .no → K (.bool true) σ') := ⟨fun K E hK => by
  have hl := h.len
  have gl := g.len
  have hl2 := h2.len
  obtain ⟨m1, m2, m3, m4⟩ := minL_le4 n m k 20
  generalize hnn : minL [n, m, k, 20] = nn at m1 m2 m3 m4
  refine calls_enter Try.func7 rfl _ Try.ntmps7 rfl ?_
  (repeat (first | refine go ?_ | refine goR ?_ | refine goS (fun yc hyc => ?_) | refine goL (fun _ _ => inferInstance) ?_ | with_reducible intro _ | refine goO (by first | omega | (simp only [List.length_cons, List.length_nil]; omega)) ?_ | fail))
  rw [hnn]
  rename Option Addr => A0
  refine WC.freeze A0 (fun s1 hn1 hs1 => ?_)
  haveI := Sub.nx (σ0 := σ) (inferInstance : Sub σ s1)
  refine WC.loopW 10633823966279326983230456482234400576 .no (fun (i : Nat) f s => At f 9 (.int .i64 (i : Int)) ∧ i ≤ nn ∧ ∃ A1 c1 zs, At f 8 (.slice A1 zs.length c1) ∧ SL s A1 zs.length c1 cnE zs ∧ riseP zs) (fun i => nn - i) 0
    ⟨At.to (.int .i64 0) rfl, Nat.zero_le _, A0, 0, [], inferInstance, inferInstance, List.Pairwise.nil⟩ ?_
  rintro i f s ha hss ⟨a9, hi, A1, c1, zs, a8, hr, hrise⟩
  by_cases hlt : i < nn
  · haveI : BV (decide ((i : Int) < (nn : Int))) true := ⟨by simpa using hlt⟩
    haveI : IdxLt i n := ⟨by omega⟩
    haveI : IdxLt i m := ⟨by omega⟩
    haveI : IdxLt i k := ⟨by omega⟩
    haveI : Fits .i64 ((i : Int) + 1) := Fits.i64 (by omega) (by omega)
    haveI : OkE σ txE xs[i]! := h.okAt (by omega)
    haveI : OkE s txE xs[i]! := inferInstance
    have hol := (inferInstance : SL σ xs[i]!.outs.A xs[i]!.outs.n xs[i]!.outs.c otE xs[i]!.outs.l).len
    have hb := hs[i]!.toNat_lt
    haveI : Fits .u32 (hs[i]!.toNat : Int) := Fits.u32 (by omega) (by omega)
    cases h1 : heavyM zs.length xs[i]! with
    | true =>
      haveI : BV (heavyM zs.length xs[i]!) true := ⟨h1⟩
      (repeat (first | refine go ?_ | refine goR ?_ | refine goS (fun yc hyc => ?_) | refine goL (fun _ _ => inferInstance) ?_ | with_reducible intro _ | refine goO (by first | omega | (simp only [List.length_cons, List.length_nil]; omega)) ?_ | fail))
      exact backN (σ0 := σ) Try.results7 (fun σ' _ _ => hK σ' inferInstance)
    | false =>
      haveI : BV (heavyM zs.length xs[i]!) false := ⟨h1⟩
      have f1 := heavy_f h1
      rcases hap : applyR zs xs[i]! ks[i]! (UInt32.ofNat hs[i]!.toNat) with ⟨v, sp, er⟩
      rcases apply_err hap with he | ⟨hv, hsp, he⟩
      · subst he
        haveI : Is (applyR zs xs[i]! ks[i]! (UInt32.ofNat hs[i]!.toNat)) (v, sp, 0) := ⟨hap⟩
        obtain ⟨b1, b2, b3, _, _⟩ := apply_back hrise hap
        haveI : Is (undoR v xs[i]! ks[i]! sp) (zs, 0) := ⟨b1⟩
        haveI : Rises v := ⟨b2⟩
        haveI : Fits .i64 ((zs.length : Int) - (sp.length : Int)) := Fits.i64 (by omega) (by omega)
        haveI : Fits .i64 ((zs.length : Int) - (sp.length : Int) + (xs[i]!.outs.n : Int)) := Fits.i64 (by omega) (by omega)
        haveI : BV (decide ((v.length : Int) = (zs.length : Int) - (sp.length : Int) + (xs[i]!.outs.n : Int))) true := ⟨decide_eq_true (by omega)⟩
        (repeat (first | refine go ?_ | refine goR ?_ | refine goS (fun yc hyc => ?_) | refine goL (fun _ _ => inferInstance) ?_ | with_reducible intro _ | refine goO (by first | omega | (simp only [List.length_cons, List.length_nil]; omega)) ?_ | fail))
        refine WC.draw [] (.p 0 (.p 1 (.p 2 (.l 3 (.l 4 (.p 5 (.p 6 (.l 7 (.l 8 (.p 9 (.p 10 (.l 11 (.l 12 (.l 13 (.h 14 (.p 15 (.p 16 (.p 17 (.p 18 (.p 19 (.p 20 (.p 21 .nil)))))))))))))))))))))) mixed (by decide +kernel) ?_
        (repeat (first | refine go ?_ | refine goR ?_ | refine goS (fun yc hyc => ?_) | refine goL (fun _ _ => inferInstance) ?_ | with_reducible intro _ | refine goO (by first | omega | (simp only [List.length_cons, List.length_nil]; omega)) ?_ | fail))
        refine WC.draw [] (.p 0 (.p 1 (.p 2 (.l 3 (.l 4 (.p 5 (.p 6 (.l 7 (.l 8 (.p 9 (.h 10 (.p 11 (.p 12 (.p 13 (.p 14 (.p 15 .nil)))))))))))))))) mixed (by decide +kernel) ?_
        (repeat (first | refine go ?_ | refine goR ?_ | refine goS (fun yc hyc => ?_) | refine goL (fun _ _ => inferInstance) ?_ | with_reducible intro _ | refine goO (by first | omega | (simp only [List.length_cons, List.length_nil]; omega)) ?_ | fail))
        exact loop_w (i + 1) ⟨At.to (.int .i64 ((i : Int) + 1)) (by simp), hlt, _, _, v, inferInstance, inferInstance, b2⟩ (by omega)
      · subst hv; subst hsp
        rcases he with rfl | rfl
        · haveI : Is (applyR zs xs[i]! ks[i]! (UInt32.ofNat hs[i]!.toNat)) ([], [], 160) := ⟨hap⟩
          (repeat (first | refine go ?_ | refine goR ?_ | refine goS (fun yc hyc => ?_) | refine goL (fun _ _ => inferInstance) ?_ | with_reducible intro _ | refine goO (by first | omega | (simp only [List.length_cons, List.length_nil]; omega)) ?_ | fail))
          refine WC.draw [] (.p 0 (.p 1 (.p 2 (.l 3 (.l 4 (.p 5 (.p 6 (.l 7 (.l 8 (.p 9 (.p 10 (.l 11 (.l 12 (.l 13 (.h 14 (.p 15 (.p 16 (.p 17 (.p 18 (.p 19 (.p 20 (.p 21 .nil)))))))))))))))))))))) mixed (by decide +kernel) ?_
          (repeat (first | refine go ?_ | refine goR ?_ | refine goS (fun yc hyc => ?_) | refine goL (fun _ _ => inferInstance) ?_ | with_reducible intro _ | refine goO (by first | omega | (simp only [List.length_cons, List.length_nil]; omega)) ?_ | fail))
          exact loop_w (i + 1) ⟨At.to (.int .i64 ((i : Int) + 1)) (by simp), hlt, _, _, zs, inferInstance, inferInstance, hrise⟩ (by omega)
        · haveI : Is (applyR zs xs[i]! ks[i]! (UInt32.ofNat hs[i]!.toNat)) ([], [], 4) := ⟨hap⟩
          (repeat (first | refine go ?_ | refine goR ?_ | refine goS (fun yc hyc => ?_) | refine goL (fun _ _ => inferInstance) ?_ | with_reducible intro _ | refine goO (by first | omega | (simp only [List.length_cons, List.length_nil]; omega)) ?_ | fail))
          refine WC.draw [] (.p 0 (.p 1 (.p 2 (.l 3 (.l 4 (.p 5 (.p 6 (.l 7 (.l 8 (.p 9 (.p 10 (.l 11 (.l 12 (.l 13 (.h 14 (.p 15 (.p 16 (.p 17 (.p 18 (.p 19 (.p 20 (.p 21 .nil)))))))))))))))))))))) mixed (by decide +kernel) ?_
          (repeat (first | refine go ?_ | refine goR ?_ | refine goS (fun yc hyc => ?_) | refine goL (fun _ _ => inferInstance) ?_ | with_reducible intro _ | refine goO (by first | omega | (simp only [List.length_cons, List.length_nil]; omega)) ?_ | fail))
          exact loop_w (i + 1) ⟨At.to (.int .i64 ((i : Int) + 1)) (by simp), hlt, _, _, zs, inferInstance, inferInstance, hrise⟩ (by omega)
  · haveI : BV (decide ((i : Int) < (nn : Int))) false := ⟨by simpa using hlt⟩
    (repeat (first | refine go ?_ | refine goR ?_ | refine goS (fun yc hyc => ?_) | refine goL (fun _ _ => inferInstance) ?_ | with_reducible intro _ | refine goO (by first | omega | (simp only [List.length_cons, List.length_nil]; omega)) ?_ | fail))
    exact backN (σ0 := σ) Try.results7 (fun σ' _ _ => hK σ' inferInstance)⟩
theorem placeC_at {xs : List Cn} {p : Pt} {i : Nat} (h : placeC xs p = some i) : i < xs.length ∧ xs[i]!.at_ = p ∧ xs[i]! ∈ xs := by
  have hil := findIdx_lt h
  unfold placeC at h
  rw [List.findIdx?_eq_some_iff_getElem] at h
  rw [getElem!_pos xs i hil]
  exact ⟨hil, by simpa using h.2.1, List.getElem_mem _⟩
theorem outsM_tx {t : Tx} {id : Key} {h : UInt32} {x : Cn} (hx : x ∈ outsM t id h) : x.at_.tx = id := by
  unfold outsM at hx
  obtain ⟨i, _, rfl⟩ := List.mem_map.1 hx
  rfl
instance rule_CoinsKept [h : SL σ A n c txE xs] [g : SL σ B m d keyE ks] [okt : OkE σ txE t] : CallRule Try.prog 6 [.slice A n c, .slice B m d, .agg (cats [#[.int .u32 (t.exp.toNat : Int)], #[.slice t.ins.A t.ins.n t.ins.c], #[.slice t.outs.A t.outs.n t.outs.c], kc t.anchor, #[.slice t.nulls.A t.nulls.n t.nulls.c], #[.slice t.notes.A t.notes.n t.notes.c], #[.int .i64 t.bal.toInt]]), .agg (kc id), .agg (cats [kc p.tx, #[.int .u32 (p.idx.toNat : Int)]])] σ (fun K _ => ∀ σ', Nx σ σ' .no → K (.bool true) σ') := ⟨fun K E hK => by
  have hl := h.len
  have gl := g.len
  have htl := (inferInstance : SL σ t.outs.A t.outs.n t.outs.c otE t.outs.l).len
  obtain ⟨m1, m2, m3⟩ := minL_le3 n m 20
  generalize hnn : minL [n, m, 20] = nn at m1 m2 m3
  refine calls_enter Try.func6 rfl _ Try.ntmps6 rfl ?_
  (repeat (first | refine go ?_ | refine goR ?_ | refine goS (fun yc hyc => ?_) | refine goL (fun _ _ => inferInstance) ?_ | with_reducible intro _ | refine goO (by first | omega | (simp only [List.length_cons, List.length_nil]; omega)) ?_ | fail))
  rw [hnn]
  rename Option Addr => A0
  refine WC.freeze A0 (fun s1 hn1 hs1 => ?_)
  haveI := Sub.nx (σ0 := σ) (inferInstance : Sub σ s1)
  refine WC.loopW 147573952585381573632 .no (fun (i : Nat) f s => At f 13 (.int .i64 (i : Int)) ∧ i ≤ nn ∧ ∃ A1 c1 zs, At f 12 (.slice A1 zs.length c1) ∧ SL s A1 zs.length c1 cnE zs ∧ riseP zs) (fun i => nn - i) 0
    ⟨At.to (.int .i64 0) rfl, Nat.zero_le _, A0, 0, [], inferInstance, inferInstance, List.Pairwise.nil⟩ ?_
  rintro i f s ha hss ⟨a9, hi, A1, c1, zs, a8, hr, hrise⟩
  by_cases hlt : i < nn
  · haveI : BV (decide ((i : Int) < (nn : Int))) true := ⟨by simpa using hlt⟩
    haveI : IdxLt i n := ⟨by omega⟩
    haveI : IdxLt i m := ⟨by omega⟩
    haveI : Fits .i64 ((i : Int) + 1) := Fits.i64 (by omega) (by omega)
    haveI : Fits .u32 (i : Int) := Fits.u32 (by omega) (by omega)
    haveI : OkE σ txE xs[i]! := h.okAt (by omega)
    haveI : OkE s txE xs[i]! := inferInstance
    cases h1 : heavyM zs.length xs[i]! with
    | true =>
      haveI : BV (heavyM zs.length xs[i]!) true := ⟨h1⟩
      (repeat (first | refine go ?_ | refine goR ?_ | refine goS (fun yc hyc => ?_) | refine goL (fun _ _ => inferInstance) ?_ | with_reducible intro _ | refine goO (by first | omega | (simp only [List.length_cons, List.length_nil]; omega)) ?_ | fail))
      exact backN (σ0 := σ) Try.results6 (fun σ' _ _ => hK σ' inferInstance)
    | false =>
      haveI : BV (heavyM zs.length xs[i]!) false := ⟨h1⟩
      have f1 := heavy_f h1
      rcases hap : applyR zs xs[i]! ks[i]! (UInt32.ofNat i) with ⟨v, sp, er⟩
      rcases apply_err hap with he | ⟨hv, hsp, he⟩
      · subst he
        haveI : Is (applyR zs xs[i]! ks[i]! (UInt32.ofNat i)) (v, sp, 0) := ⟨hap⟩
        obtain ⟨_, b2, _, _, _⟩ := apply_back hrise hap
        (repeat (first | refine go ?_ | refine goR ?_ | refine goS (fun yc hyc => ?_) | refine goL (fun _ _ => inferInstance) ?_ | with_reducible intro _ | refine goO (by first | omega | (simp only [List.length_cons, List.length_nil]; omega)) ?_ | fail))
        refine WC.draw [] (.p 0 (.p 1 (.p 2 (.l 3 (.l 4 (.p 5 (.p 6 (.l 7 (.l 8 (.p 9 (.l 10 (.h 11 (.p 12 (.p 13 (.p 14 (.p 15 (.p 16 (.p 17 (.p 18 .nil))))))))))))))))))) mixed (by decide +kernel) ?_
        (repeat (first | refine go ?_ | refine goR ?_ | refine goS (fun yc hyc => ?_) | refine goL (fun _ _ => inferInstance) ?_ | with_reducible intro _ | refine goO (by first | omega | (simp only [List.length_cons, List.length_nil]; omega)) ?_ | fail))
        exact loop_w (i + 1) ⟨At.to (.int .i64 ((i : Int) + 1)) (by simp), hlt, _, _, v, inferInstance, inferInstance, b2⟩ (by omega)
      · subst hv; subst hsp
        rcases he with rfl | rfl
        · haveI : Is (applyR zs xs[i]! ks[i]! (UInt32.ofNat i)) ([], [], 160) := ⟨hap⟩
          (repeat (first | refine go ?_ | refine goR ?_ | refine goS (fun yc hyc => ?_) | refine goL (fun _ _ => inferInstance) ?_ | with_reducible intro _ | refine goO (by first | omega | (simp only [List.length_cons, List.length_nil]; omega)) ?_ | fail))
          refine WC.draw [] (.p 0 (.p 1 (.p 2 (.l 3 (.l 4 (.p 5 (.p 6 (.l 7 (.l 8 (.p 9 (.l 10 (.h 11 (.p 12 (.p 13 (.p 14 (.p 15 (.p 16 (.p 17 (.p 18 .nil))))))))))))))))))) mixed (by decide +kernel) ?_
          (repeat (first | refine go ?_ | refine goR ?_ | refine goS (fun yc hyc => ?_) | refine goL (fun _ _ => inferInstance) ?_ | with_reducible intro _ | refine goO (by first | omega | (simp only [List.length_cons, List.length_nil]; omega)) ?_ | fail))
          exact loop_w (i + 1) ⟨At.to (.int .i64 ((i : Int) + 1)) (by simp), hlt, _, _, zs, inferInstance, inferInstance, hrise⟩ (by omega)
        · haveI : Is (applyR zs xs[i]! ks[i]! (UInt32.ofNat i)) ([], [], 4) := ⟨hap⟩
          (repeat (first | refine go ?_ | refine goR ?_ | refine goS (fun yc hyc => ?_) | refine goL (fun _ _ => inferInstance) ?_ | with_reducible intro _ | refine goO (by first | omega | (simp only [List.length_cons, List.length_nil]; omega)) ?_ | fail))
          refine WC.draw [] (.p 0 (.p 1 (.p 2 (.l 3 (.l 4 (.p 5 (.p 6 (.l 7 (.l 8 (.p 9 (.l 10 (.h 11 (.p 12 (.p 13 (.p 14 (.p 15 (.p 16 (.p 17 (.p 18 .nil))))))))))))))))))) mixed (by decide +kernel) ?_
          (repeat (first | refine go ?_ | refine goR ?_ | refine goS (fun yc hyc => ?_) | refine goL (fun _ _ => inferInstance) ?_ | with_reducible intro _ | refine goO (by first | omega | (simp only [List.length_cons, List.length_nil]; omega)) ?_ | fail))
          exact loop_w (i + 1) ⟨At.to (.int .i64 ((i : Int) + 1)) (by simp), hlt, _, _, zs, inferInstance, inferInstance, hrise⟩ (by omega)
  haveI : BV (decide ((i : Int) < (nn : Int))) false := ⟨by simpa using hlt⟩
  cases h1 : heavyM zs.length t with
  | true =>
    haveI : BV (heavyM zs.length t) true := ⟨h1⟩
    (repeat (first | refine go ?_ | refine goR ?_ | refine goS (fun yc hyc => ?_) | refine goL (fun _ _ => inferInstance) ?_ | with_reducible intro _ | refine goO (by first | omega | (simp only [List.length_cons, List.length_nil]; omega)) ?_ | fail))
    exact backN (σ0 := σ) Try.results6 (fun σ' _ _ => hK σ' inferInstance)
  | false =>
    haveI : BV (heavyM zs.length t) false := ⟨h1⟩
    have f1 := heavy_f h1
    rcases hap : applyR zs t id (UInt32.ofNat 99) with ⟨v, sp, er⟩
    rcases apply_err hap with he | ⟨hv, hsp, he⟩
    · subst he
      haveI : Is (applyR zs t id (UInt32.ofNat 99)) (v, sp, 0) := ⟨hap⟩
      obtain ⟨_, b2, b3, b4, b5⟩ := apply_back hrise hap
      cases hwas : placeC zs p with
      | none =>
        haveI : Is (placeC zs p) none := ⟨hwas⟩
        haveI : Is (Option.map (fun i => zs[i]!) (none : Option Nat)) none := ⟨rfl⟩
        cases his : placeC v p with
        | none =>
          haveI : Is (placeC v p) none := ⟨his⟩
          haveI : Is (Option.map (fun i => v[i]!) (none : Option Nat)) none := ⟨rfl⟩
          (repeat (first | refine go ?_ | refine goR ?_ | refine goS (fun yc hyc => ?_) | refine goL (fun _ _ => inferInstance) ?_ | with_reducible intro _ | refine goO (by first | omega | (simp only [List.length_cons, List.length_nil]; omega)) ?_ | fail))
          refine WC.loopW 83075482085957013827086444614647808 .no (fun (i : Nat) f s => At f 25 (.int .i64 (i : Int)) ∧ i ≤ sp.length ∧ At f 24 (.bool ((sp.take i).any fun x => decide (x.at_ = p)))) (fun i => sp.length - i) 0 ⟨At.to (.int .i64 0) rfl, Nat.zero_le _, At.to (.bool false) rfl⟩ ?_
          rintro i2 f s ha2 hs2 ⟨a25, hi2, a24⟩
          by_cases hlt2 : i2 < sp.length
          · haveI : BV (decide ((i2 : Int) < (sp.length : Int))) true := ⟨by simpa using hlt2⟩
            haveI : IdxLt i2 sp.length := ⟨hlt2⟩
            haveI : Fits .i64 ((i2 : Int) + 1) := Fits.i64 (by omega) (by omega)
            have hst : ((sp.take (i2 + 1)).any fun x => decide (x.at_ = p)) = (((sp.take i2).any fun x => decide (x.at_ = p)) || decide (sp[i2]!.at_ = p)) := by
              rw [take_snoc hlt2]; simp
            cases hg : (sp.take i2).any fun x => decide (x.at_ = p) with
            | true =>
              haveI : BV ((sp.take i2).any fun x => decide (x.at_ = p)) true := ⟨hg⟩
              rw [hg, Bool.true_or] at hst
              (repeat (first | refine go ?_ | refine goR ?_ | refine goS (fun yc hyc => ?_) | refine goL (fun _ _ => inferInstance) ?_ | with_reducible intro _ | refine goO (by first | omega | (simp only [List.length_cons, List.length_nil]; omega)) ?_ | fail))
              refine WC.draw [] (.p 0 (.p 1 (.p 2 (.p 3 (.l 4 (.l 5 (.l 6 (.l 7 (.p 8 (.p 9 (.p 10 .nil))))))))))) mixed (by decide +kernel) ?_
              (repeat (first | refine go ?_ | refine goR ?_ | refine goS (fun yc hyc => ?_) | refine goL (fun _ _ => inferInstance) ?_ | with_reducible intro _ | refine goO (by first | omega | (simp only [List.length_cons, List.length_nil]; omega)) ?_ | fail))
              exact loop_w (i2 + 1) ⟨At.to (.int .i64 ((i2 : Int) + 1)) (by simp), hlt2, by rw [hst]; infer_instance⟩ (by omega)
            | false =>
              haveI : BV ((sp.take i2).any fun x => decide (x.at_ = p)) false := ⟨hg⟩
              rw [hg, Bool.false_or] at hst
              (repeat (first | refine go ?_ | refine goR ?_ | refine goS (fun yc hyc => ?_) | refine goL (fun _ _ => inferInstance) ?_ | with_reducible intro _ | refine goO (by first | omega | (simp only [List.length_cons, List.length_nil]; omega)) ?_ | fail))
              refine WC.draw [] (.p 0 (.p 1 (.p 2 (.p 3 (.l 4 (.l 5 (.l 6 (.l 7 (.p 8 (.p 9 (.p 10 .nil))))))))))) mixed (by decide +kernel) ?_
              (repeat (first | refine go ?_ | refine goR ?_ | refine goS (fun yc hyc => ?_) | refine goL (fun _ _ => inferInstance) ?_ | with_reducible intro _ | refine goO (by first | omega | (simp only [List.length_cons, List.length_nil]; omega)) ?_ | fail))
              exact loop_w (i2 + 1) ⟨At.to (.int .i64 ((i2 : Int) + 1)) (by simp), hlt2, by rw [hst]; infer_instance⟩ (by omega)
          haveI : BV (decide ((i2 : Int) < (sp.length : Int))) false := ⟨by simpa using hlt2⟩
          rw [take_all (by omega)] at a24
          (repeat (first | refine go ?_ | refine goR ?_ | refine goS (fun yc hyc => ?_) | refine goL (fun _ _ => inferInstance) ?_ | with_reducible intro _ | refine goO (by first | omega | (simp only [List.length_cons, List.length_nil]; omega)) ?_ | fail))
          exact backN (σ0 := σ) Try.results6 (fun σ' _ _ => hK σ' inferInstance)
        | some j =>
          haveI : Is (placeC v p) (some j) := ⟨his⟩
          haveI : Is (Option.map (fun i => v[i]!) (some j)) (some v[j]!) := ⟨rfl⟩
          obtain ⟨j1, j2, j3⟩ := placeC_at his
          haveI : BV (decide (v[j]!.at_.tx = id)) true := ⟨by
            rcases (b4 _).1 j3 with ⟨h4, _⟩ | h4
            · exact absurd j2 (placeC_none.1 hwas _ h4)
            · exact decide_eq_true (outsM_tx h4)⟩
          (repeat (first | refine go ?_ | refine goR ?_ | refine goS (fun yc hyc => ?_) | refine goL (fun _ _ => inferInstance) ?_ | with_reducible intro _ | refine goO (by first | omega | (simp only [List.length_cons, List.length_nil]; omega)) ?_ | fail))
          refine WC.loopW 83075482085957013827086444614647808 .no (fun (i : Nat) f s => At f 25 (.int .i64 (i : Int)) ∧ i ≤ sp.length ∧ At f 24 (.bool ((sp.take i).any fun x => decide (x.at_ = p)))) (fun i => sp.length - i) 0 ⟨At.to (.int .i64 0) rfl, Nat.zero_le _, At.to (.bool false) rfl⟩ ?_
          rintro i2 f s ha2 hs2 ⟨a25, hi2, a24⟩
          by_cases hlt2 : i2 < sp.length
          · haveI : BV (decide ((i2 : Int) < (sp.length : Int))) true := ⟨by simpa using hlt2⟩
            haveI : IdxLt i2 sp.length := ⟨hlt2⟩
            haveI : Fits .i64 ((i2 : Int) + 1) := Fits.i64 (by omega) (by omega)
            have hst : ((sp.take (i2 + 1)).any fun x => decide (x.at_ = p)) = (((sp.take i2).any fun x => decide (x.at_ = p)) || decide (sp[i2]!.at_ = p)) := by
              rw [take_snoc hlt2]; simp
            cases hg : (sp.take i2).any fun x => decide (x.at_ = p) with
            | true =>
              haveI : BV ((sp.take i2).any fun x => decide (x.at_ = p)) true := ⟨hg⟩
              rw [hg, Bool.true_or] at hst
              (repeat (first | refine go ?_ | refine goR ?_ | refine goS (fun yc hyc => ?_) | refine goL (fun _ _ => inferInstance) ?_ | with_reducible intro _ | refine goO (by first | omega | (simp only [List.length_cons, List.length_nil]; omega)) ?_ | fail))
              refine WC.draw [] (.p 0 (.p 1 (.p 2 (.p 3 (.l 4 (.l 5 (.l 6 (.l 7 (.p 8 (.p 9 (.p 10 .nil))))))))))) mixed (by decide +kernel) ?_
              (repeat (first | refine go ?_ | refine goR ?_ | refine goS (fun yc hyc => ?_) | refine goL (fun _ _ => inferInstance) ?_ | with_reducible intro _ | refine goO (by first | omega | (simp only [List.length_cons, List.length_nil]; omega)) ?_ | fail))
              exact loop_w (i2 + 1) ⟨At.to (.int .i64 ((i2 : Int) + 1)) (by simp), hlt2, by rw [hst]; infer_instance⟩ (by omega)
            | false =>
              haveI : BV ((sp.take i2).any fun x => decide (x.at_ = p)) false := ⟨hg⟩
              rw [hg, Bool.false_or] at hst
              (repeat (first | refine go ?_ | refine goR ?_ | refine goS (fun yc hyc => ?_) | refine goL (fun _ _ => inferInstance) ?_ | with_reducible intro _ | refine goO (by first | omega | (simp only [List.length_cons, List.length_nil]; omega)) ?_ | fail))
              refine WC.draw [] (.p 0 (.p 1 (.p 2 (.p 3 (.l 4 (.l 5 (.l 6 (.l 7 (.p 8 (.p 9 (.p 10 .nil))))))))))) mixed (by decide +kernel) ?_
              (repeat (first | refine go ?_ | refine goR ?_ | refine goS (fun yc hyc => ?_) | refine goL (fun _ _ => inferInstance) ?_ | with_reducible intro _ | refine goO (by first | omega | (simp only [List.length_cons, List.length_nil]; omega)) ?_ | fail))
              exact loop_w (i2 + 1) ⟨At.to (.int .i64 ((i2 : Int) + 1)) (by simp), hlt2, by rw [hst]; infer_instance⟩ (by omega)
          haveI : BV (decide ((i2 : Int) < (sp.length : Int))) false := ⟨by simpa using hlt2⟩
          rw [take_all (by omega)] at a24
          (repeat (first | refine go ?_ | refine goR ?_ | refine goS (fun yc hyc => ?_) | refine goL (fun _ _ => inferInstance) ?_ | with_reducible intro _ | refine goO (by first | omega | (simp only [List.length_cons, List.length_nil]; omega)) ?_ | fail))
          exact backN (σ0 := σ) Try.results6 (fun σ' _ _ => hK σ' inferInstance)
      | some i =>
        haveI : Is (placeC zs p) (some i) := ⟨hwas⟩
        haveI : Is (Option.map (fun i => zs[i]!) (some i)) (some zs[i]!) := ⟨rfl⟩
        obtain ⟨i1, i2', i3⟩ := placeC_at hwas
        cases hgg : sp.any fun x => decide (x.at_ = p) with
        | true =>
          haveI : BV (sp.any fun x => decide (x.at_ = p)) true := ⟨hgg⟩
          cases his : placeC v p with
          | none =>
            haveI : Is (placeC v p) none := ⟨his⟩
            haveI : Is (Option.map (fun i => v[i]!) (none : Option Nat)) none := ⟨rfl⟩
            (repeat (first | refine go ?_ | refine goR ?_ | refine goS (fun yc hyc => ?_) | refine goL (fun _ _ => inferInstance) ?_ | with_reducible intro _ | refine goO (by first | omega | (simp only [List.length_cons, List.length_nil]; omega)) ?_ | fail))
            refine WC.loopW 83075482085957013827086444614647808 .no (fun (i : Nat) f s => At f 25 (.int .i64 (i : Int)) ∧ i ≤ sp.length ∧ At f 24 (.bool ((sp.take i).any fun x => decide (x.at_ = p)))) (fun i => sp.length - i) 0 ⟨At.to (.int .i64 0) rfl, Nat.zero_le _, At.to (.bool false) rfl⟩ ?_
            rintro i2 f s ha2 hs2 ⟨a25, hi2, a24⟩
            by_cases hlt2 : i2 < sp.length
            · haveI : BV (decide ((i2 : Int) < (sp.length : Int))) true := ⟨by simpa using hlt2⟩
              haveI : IdxLt i2 sp.length := ⟨hlt2⟩
              haveI : Fits .i64 ((i2 : Int) + 1) := Fits.i64 (by omega) (by omega)
              have hst : ((sp.take (i2 + 1)).any fun x => decide (x.at_ = p)) = (((sp.take i2).any fun x => decide (x.at_ = p)) || decide (sp[i2]!.at_ = p)) := by
                rw [take_snoc hlt2]; simp
              cases hg : (sp.take i2).any fun x => decide (x.at_ = p) with
              | true =>
                haveI : BV ((sp.take i2).any fun x => decide (x.at_ = p)) true := ⟨hg⟩
                rw [hg, Bool.true_or] at hst
                (repeat (first | refine go ?_ | refine goR ?_ | refine goS (fun yc hyc => ?_) | refine goL (fun _ _ => inferInstance) ?_ | with_reducible intro _ | refine goO (by first | omega | (simp only [List.length_cons, List.length_nil]; omega)) ?_ | fail))
                refine WC.draw [] (.p 0 (.p 1 (.p 2 (.p 3 (.l 4 (.l 5 (.l 6 (.l 7 (.p 8 (.p 9 (.p 10 .nil))))))))))) mixed (by decide +kernel) ?_
                (repeat (first | refine go ?_ | refine goR ?_ | refine goS (fun yc hyc => ?_) | refine goL (fun _ _ => inferInstance) ?_ | with_reducible intro _ | refine goO (by first | omega | (simp only [List.length_cons, List.length_nil]; omega)) ?_ | fail))
                exact loop_w (i2 + 1) ⟨At.to (.int .i64 ((i2 : Int) + 1)) (by simp), hlt2, by rw [hst]; infer_instance⟩ (by omega)
              | false =>
                haveI : BV ((sp.take i2).any fun x => decide (x.at_ = p)) false := ⟨hg⟩
                rw [hg, Bool.false_or] at hst
                (repeat (first | refine go ?_ | refine goR ?_ | refine goS (fun yc hyc => ?_) | refine goL (fun _ _ => inferInstance) ?_ | with_reducible intro _ | refine goO (by first | omega | (simp only [List.length_cons, List.length_nil]; omega)) ?_ | fail))
                refine WC.draw [] (.p 0 (.p 1 (.p 2 (.p 3 (.l 4 (.l 5 (.l 6 (.l 7 (.p 8 (.p 9 (.p 10 .nil))))))))))) mixed (by decide +kernel) ?_
                (repeat (first | refine go ?_ | refine goR ?_ | refine goS (fun yc hyc => ?_) | refine goL (fun _ _ => inferInstance) ?_ | with_reducible intro _ | refine goO (by first | omega | (simp only [List.length_cons, List.length_nil]; omega)) ?_ | fail))
                exact loop_w (i2 + 1) ⟨At.to (.int .i64 ((i2 : Int) + 1)) (by simp), hlt2, by rw [hst]; infer_instance⟩ (by omega)
            haveI : BV (decide ((i2 : Int) < (sp.length : Int))) false := ⟨by simpa using hlt2⟩
            rw [take_all (by omega)] at a24
            (repeat (first | refine go ?_ | refine goR ?_ | refine goS (fun yc hyc => ?_) | refine goL (fun _ _ => inferInstance) ?_ | with_reducible intro _ | refine goO (by first | omega | (simp only [List.length_cons, List.length_nil]; omega)) ?_ | fail))
            exact backN (σ0 := σ) Try.results6 (fun σ' _ _ => hK σ' inferInstance)
          | some j =>
            haveI : Is (placeC v p) (some j) := ⟨his⟩
            haveI : Is (Option.map (fun i => v[i]!) (some j)) (some v[j]!) := ⟨rfl⟩
            (repeat (first | refine go ?_ | refine goR ?_ | refine goS (fun yc hyc => ?_) | refine goL (fun _ _ => inferInstance) ?_ | with_reducible intro _ | refine goO (by first | omega | (simp only [List.length_cons, List.length_nil]; omega)) ?_ | fail))
            refine WC.loopW 83075482085957013827086444614647808 .no (fun (i : Nat) f s => At f 25 (.int .i64 (i : Int)) ∧ i ≤ sp.length ∧ At f 24 (.bool ((sp.take i).any fun x => decide (x.at_ = p)))) (fun i => sp.length - i) 0 ⟨At.to (.int .i64 0) rfl, Nat.zero_le _, At.to (.bool false) rfl⟩ ?_
            rintro i2 f s ha2 hs2 ⟨a25, hi2, a24⟩
            by_cases hlt2 : i2 < sp.length
            · haveI : BV (decide ((i2 : Int) < (sp.length : Int))) true := ⟨by simpa using hlt2⟩
              haveI : IdxLt i2 sp.length := ⟨hlt2⟩
              haveI : Fits .i64 ((i2 : Int) + 1) := Fits.i64 (by omega) (by omega)
              have hst : ((sp.take (i2 + 1)).any fun x => decide (x.at_ = p)) = (((sp.take i2).any fun x => decide (x.at_ = p)) || decide (sp[i2]!.at_ = p)) := by
                rw [take_snoc hlt2]; simp
              cases hg : (sp.take i2).any fun x => decide (x.at_ = p) with
              | true =>
                haveI : BV ((sp.take i2).any fun x => decide (x.at_ = p)) true := ⟨hg⟩
                rw [hg, Bool.true_or] at hst
                (repeat (first | refine go ?_ | refine goR ?_ | refine goS (fun yc hyc => ?_) | refine goL (fun _ _ => inferInstance) ?_ | with_reducible intro _ | refine goO (by first | omega | (simp only [List.length_cons, List.length_nil]; omega)) ?_ | fail))
                refine WC.draw [] (.p 0 (.p 1 (.p 2 (.p 3 (.l 4 (.l 5 (.l 6 (.l 7 (.p 8 (.p 9 (.p 10 .nil))))))))))) mixed (by decide +kernel) ?_
                (repeat (first | refine go ?_ | refine goR ?_ | refine goS (fun yc hyc => ?_) | refine goL (fun _ _ => inferInstance) ?_ | with_reducible intro _ | refine goO (by first | omega | (simp only [List.length_cons, List.length_nil]; omega)) ?_ | fail))
                exact loop_w (i2 + 1) ⟨At.to (.int .i64 ((i2 : Int) + 1)) (by simp), hlt2, by rw [hst]; infer_instance⟩ (by omega)
              | false =>
                haveI : BV ((sp.take i2).any fun x => decide (x.at_ = p)) false := ⟨hg⟩
                rw [hg, Bool.false_or] at hst
                (repeat (first | refine go ?_ | refine goR ?_ | refine goS (fun yc hyc => ?_) | refine goL (fun _ _ => inferInstance) ?_ | with_reducible intro _ | refine goO (by first | omega | (simp only [List.length_cons, List.length_nil]; omega)) ?_ | fail))
                refine WC.draw [] (.p 0 (.p 1 (.p 2 (.p 3 (.l 4 (.l 5 (.l 6 (.l 7 (.p 8 (.p 9 (.p 10 .nil))))))))))) mixed (by decide +kernel) ?_
                (repeat (first | refine go ?_ | refine goR ?_ | refine goS (fun yc hyc => ?_) | refine goL (fun _ _ => inferInstance) ?_ | with_reducible intro _ | refine goO (by first | omega | (simp only [List.length_cons, List.length_nil]; omega)) ?_ | fail))
                exact loop_w (i2 + 1) ⟨At.to (.int .i64 ((i2 : Int) + 1)) (by simp), hlt2, by rw [hst]; infer_instance⟩ (by omega)
            haveI : BV (decide ((i2 : Int) < (sp.length : Int))) false := ⟨by simpa using hlt2⟩
            rw [take_all (by omega)] at a24
            (repeat (first | refine go ?_ | refine goR ?_ | refine goS (fun yc hyc => ?_) | refine goL (fun _ _ => inferInstance) ?_ | with_reducible intro _ | refine goO (by first | omega | (simp only [List.length_cons, List.length_nil]; omega)) ?_ | fail))
            exact backN (σ0 := σ) Try.results6 (fun σ' _ _ => hK σ' inferInstance)
        | false =>
          haveI : BV (sp.any fun x => decide (x.at_ = p)) false := ⟨hgg⟩
          have hin : zs[i]! ∈ v := (b4 _).2 (.inl ⟨i3, fun hm => by
            obtain ⟨x, hx, hxe⟩ := List.mem_map.1 hm
            rw [List.any_eq_false] at hgg
            exact hgg x hx (decide_eq_true (hxe.trans i2'))⟩)
          cases his : placeC v p with
          | none => exact absurd i2' (placeC_none.1 his _ hin)
          | some j =>
            haveI : Is (placeC v p) (some j) := ⟨his⟩
            haveI : Is (Option.map (fun i => v[i]!) (some j)) (some v[j]!) := ⟨rfl⟩
            obtain ⟨j1, j2, j3⟩ := placeC_at his
            haveI : BV (decide (v[j]! = zs[i]!)) true := ⟨decide_eq_true (at_inj b2 j3 hin (j2.trans i2'.symm))⟩
            (repeat (first | refine go ?_ | refine goR ?_ | refine goS (fun yc hyc => ?_) | refine goL (fun _ _ => inferInstance) ?_ | with_reducible intro _ | refine goO (by first | omega | (simp only [List.length_cons, List.length_nil]; omega)) ?_ | fail))
            refine WC.loopW 83075482085957013827086444614647808 .no (fun (i : Nat) f s => At f 25 (.int .i64 (i : Int)) ∧ i ≤ sp.length ∧ At f 24 (.bool ((sp.take i).any fun x => decide (x.at_ = p)))) (fun i => sp.length - i) 0 ⟨At.to (.int .i64 0) rfl, Nat.zero_le _, At.to (.bool false) rfl⟩ ?_
            rintro i2 f s ha2 hs2 ⟨a25, hi2, a24⟩
            by_cases hlt2 : i2 < sp.length
            · haveI : BV (decide ((i2 : Int) < (sp.length : Int))) true := ⟨by simpa using hlt2⟩
              haveI : IdxLt i2 sp.length := ⟨hlt2⟩
              haveI : Fits .i64 ((i2 : Int) + 1) := Fits.i64 (by omega) (by omega)
              have hst : ((sp.take (i2 + 1)).any fun x => decide (x.at_ = p)) = (((sp.take i2).any fun x => decide (x.at_ = p)) || decide (sp[i2]!.at_ = p)) := by
                rw [take_snoc hlt2]; simp
              cases hg : (sp.take i2).any fun x => decide (x.at_ = p) with
              | true =>
                haveI : BV ((sp.take i2).any fun x => decide (x.at_ = p)) true := ⟨hg⟩
                rw [hg, Bool.true_or] at hst
                (repeat (first | refine go ?_ | refine goR ?_ | refine goS (fun yc hyc => ?_) | refine goL (fun _ _ => inferInstance) ?_ | with_reducible intro _ | refine goO (by first | omega | (simp only [List.length_cons, List.length_nil]; omega)) ?_ | fail))
                refine WC.draw [] (.p 0 (.p 1 (.p 2 (.p 3 (.l 4 (.l 5 (.l 6 (.l 7 (.p 8 (.p 9 (.p 10 .nil))))))))))) mixed (by decide +kernel) ?_
                (repeat (first | refine go ?_ | refine goR ?_ | refine goS (fun yc hyc => ?_) | refine goL (fun _ _ => inferInstance) ?_ | with_reducible intro _ | refine goO (by first | omega | (simp only [List.length_cons, List.length_nil]; omega)) ?_ | fail))
                exact loop_w (i2 + 1) ⟨At.to (.int .i64 ((i2 : Int) + 1)) (by simp), hlt2, by rw [hst]; infer_instance⟩ (by omega)
              | false =>
                haveI : BV ((sp.take i2).any fun x => decide (x.at_ = p)) false := ⟨hg⟩
                rw [hg, Bool.false_or] at hst
                (repeat (first | refine go ?_ | refine goR ?_ | refine goS (fun yc hyc => ?_) | refine goL (fun _ _ => inferInstance) ?_ | with_reducible intro _ | refine goO (by first | omega | (simp only [List.length_cons, List.length_nil]; omega)) ?_ | fail))
                refine WC.draw [] (.p 0 (.p 1 (.p 2 (.p 3 (.l 4 (.l 5 (.l 6 (.l 7 (.p 8 (.p 9 (.p 10 .nil))))))))))) mixed (by decide +kernel) ?_
                (repeat (first | refine go ?_ | refine goR ?_ | refine goS (fun yc hyc => ?_) | refine goL (fun _ _ => inferInstance) ?_ | with_reducible intro _ | refine goO (by first | omega | (simp only [List.length_cons, List.length_nil]; omega)) ?_ | fail))
                exact loop_w (i2 + 1) ⟨At.to (.int .i64 ((i2 : Int) + 1)) (by simp), hlt2, by rw [hst]; infer_instance⟩ (by omega)
            haveI : BV (decide ((i2 : Int) < (sp.length : Int))) false := ⟨by simpa using hlt2⟩
            rw [take_all (by omega)] at a24
            (repeat (first | refine go ?_ | refine goR ?_ | refine goS (fun yc hyc => ?_) | refine goL (fun _ _ => inferInstance) ?_ | with_reducible intro _ | refine goO (by first | omega | (simp only [List.length_cons, List.length_nil]; omega)) ?_ | fail))
            exact backN (σ0 := σ) Try.results6 (fun σ' _ _ => hK σ' inferInstance)
    · subst hv; subst hsp
      rcases he with rfl | rfl
      · haveI : Is (applyR zs t id (UInt32.ofNat 99)) ([], [], 160) := ⟨hap⟩
        (repeat (first | refine go ?_ | refine goR ?_ | refine goS (fun yc hyc => ?_) | refine goL (fun _ _ => inferInstance) ?_ | with_reducible intro _ | refine goO (by first | omega | (simp only [List.length_cons, List.length_nil]; omega)) ?_ | fail))
        exact backN (σ0 := σ) Try.results6 (fun σ' _ _ => hK σ' inferInstance)
      · haveI : Is (applyR zs t id (UInt32.ofNat 99)) ([], [], 4) := ⟨hap⟩
        (repeat (first | refine go ?_ | refine goR ?_ | refine goS (fun yc hyc => ?_) | refine goL (fun _ _ => inferInstance) ?_ | with_reducible intro _ | refine goO (by first | omega | (simp only [List.length_cons, List.length_nil]; omega)) ?_ | fail))
        exact backN (σ0 := σ) Try.results6 (fun σ' _ _ => hK σ' inferInstance)⟩
end
end Go.Proofs.Ytpnbfohdfffolaa
