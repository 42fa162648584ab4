/- The law CoinsTells, by contract. No condition. -/
import Derived.Test.YtpnbfohdfffolaaC6
import Derived.Test.YtpnbfohdfffolaaC9
set_option linter.all false
set_option maxHeartbeats 40000000
set_option synthInstance.maxHeartbeats 2000000
set_option synthInstance.maxSize 100000
namespace Go.Proofs.Ytpnbfohdfffolaa
open Go Go.RowKit
theorem takesM_len {q : Cn → Bool} {xs : List Cn} : ∀ {ps : List Pt} {us sp : List Cn}, takesM q xs ps = some (us, sp) → us.length + sp.length = xs.length ∧ sp.length = ps.length := by
  have key : ∀ (ps : List Pt) (us sp : List Cn), takesM q xs ps.reverse = some (us, sp) → us.length + sp.length = xs.length ∧ sp.length = ps.length := by
    intro ps
    induction ps with
    | nil =>
      intro us sp h
      simp only [List.reverse_nil] at h
      injection h with h; injection h with h1 h2
      subst h1; subst h2; simp
    | cons p ps ih =>
      intro us sp h
      rw [List.reverse_cons, takesM_snoc] at h
      cases hm : takesM q xs ps.reverse with
      | none => rw [hm] at h; cases h
      | some r =>
        obtain ⟨s', sp'⟩ := r
        rw [hm] at h
        simp only [Option.bind_some] at h
        cases ht : takeM s' p q with
        | none => rw [ht] at h; cases h
        | some r =>
          obtain ⟨k, us'⟩ := r
          rw [ht] at h
          simp only [Option.map_some] at h
          injection h with h; injection h with h1 h2
          subst h1; subst h2
          have h3 := ih _ _ hm
          have h4 := takeM_len ht
          simp; omega
  intro ps us sp h
  have := key ps.reverse us sp (by rwa [List.reverse_reverse])
  simpa using this
theorem applyR_len (xs : List Cn) (t : Tx) (id : Key) (h : UInt32) : (applyR xs t id h).1.length ≤ xs.length + t.outs.l.length ∧ (applyR xs t id h).2.1.length ≤ xs.length := by
  unfold applyR
  cases hs : spentM xs t h with
  | none => simp
  | some r =>
    obtain ⟨us, sp⟩ := r
    have hl : us.length + sp.length = xs.length := by
      unfold spentM at hs
      split at hs
      · injection hs with hs; injection hs with h1 h2; subst h1; subst h2; simp
      · exact (takesM_len hs).1
    simp only
    cases hf : foldA putC us (outsM t id h) with
    | none => simp
    | some v =>
      have := foldA_len (fun xs k zs h => by rw [putC_len h]; exact Nat.le_refl _) _ _ _ hf
      rw [outsM_len] at this
      simp only; omega
theorem undoR_len (xs : List Cn) (t : Tx) (id : Key) (ys : List Cn) : (undoR xs t id ys).1.length ≤ xs.length + t.outs.l.length + ys.length := by
  unfold undoR
  cases hs : foldA goneM xs (outsM t id 0).reverse with
  | none => simp
  | some us =>
    have h1 := foldA_len (fun xs k zs h => by have := goneM_len h; omega) _ _ _ hs
    rw [List.length_reverse, outsM_len] at h1
    simp only
    cases hf : foldA putC us ys.reverse with
    | none => simp
    | some v =>
      have := foldA_len (fun xs k zs h => by rw [putC_len h]; exact Nat.le_refl _) _ _ _ hf
      rw [List.length_reverse] at this
      simp only; omega
section
variable {σ : St} {A B : Option Addr} {n c m d b : Nat} {xs ys : List Cn} {p q : Pt} {k : Cn} {v1 v2 : Value} {t : Tx} {id : Key} {hh : UInt32}
instance rule_CoinsTells [h : SL σ A n c cnE xs] [ok : OkE σ txE t] [g : SL σ B m d cnE ys] : CallRule Try.prog 8 [.slice A n c, .agg (cats [#[.int .u32 (t.exp.toNat : Int)], #[.slice t.ins.A t.ins.n t.ins.c], #[.slice t.outs.A t.outs.n t.outs.c], kc t.anchor, #[.slice t.nulls.A t.nulls.n t.nulls.c], #[.slice t.notes.A t.notes.n t.notes.c], #[.int .i64 t.bal.toInt]]), .agg (kc id), .int .u32 (hh.toNat : Int), .slice B m d, .agg (cats [kc p.tx, #[.int .u32 (p.idx.toNat : Int)]]), .agg (cats [kc q.tx, #[.int .u32 (q.idx.toNat : Int)]])] σ (fun K _ => ∀ σ', Nx σ σ' .no → K (.bool true) σ') := ⟨fun K E hK => by
  have hl := h.len
  have gl := g.len
  have hil := (inferInstance : SL σ t.ins.A t.ins.n t.ins.c ptE t.ins.l).len
  have hol := (inferInstance : SL σ t.outs.A t.outs.n t.outs.c otE t.outs.l).len
  cases h1 : heavyM n t with
  | true =>
    haveI : BV (heavyM n t) true := ⟨h1⟩
    refine calls_enter Try.func8 rfl _ Try.ntmps8 rfl ?_
    (repeat (first | refine go ?_ | refine goR ?_ | refine goS (fun yc hyc => ?_) | refine goL (fun _ _ => inferInstance) ?_ | with_reducible intro _ | refine goO (by first | omega | (simp only [List.length_cons, List.length_nil]; omega)) ?_ | fail))
    exact backN (σ0 := σ) Try.results8 (fun σ' _ _ => hK σ' inferInstance)
  | false =>
    haveI : BV (heavyM n t) false := ⟨h1⟩
    have f1 := heavy_f h1
    cases h2 : heavyM m t with
    | true =>
      haveI : BV (heavyM m t) true := ⟨h2⟩
      refine calls_enter Try.func8 rfl _ Try.ntmps8 rfl ?_
      (repeat (first | refine go ?_ | refine goR ?_ | refine goS (fun yc hyc => ?_) | refine goL (fun _ _ => inferInstance) ?_ | with_reducible intro _ | refine goO (by first | omega | (simp only [List.length_cons, List.length_nil]; omega)) ?_ | fail))
      exact backN (σ0 := σ) Try.results8 (fun σ' _ _ => hK σ' inferInstance)
    | false =>
      haveI : BV (heavyM m t) false := ⟨h2⟩
      have f2 := heavy_f h2
      have l1 := applyR_len xs t id hh
      have l2 := undoR_len xs t id ys
      refine calls_enter Try.func8 rfl _ Try.ntmps8 rfl ?_
      (repeat (first | refine go ?_ | refine goR ?_ | refine goS (fun yc hyc => ?_) | refine goL (fun _ _ => inferInstance) ?_ | with_reducible intro _ | refine goO (by first | omega | (simp only [List.length_cons, List.length_nil]; omega)) ?_ | fail))
      refine WC.draw [] (.p 0 (.l 2 (.l 3 (.p 4 (.h 1 (.h 5 (.p 6 (.p 7 (.p 8 (.p 9 (.p 10 (.p 11 (.p 12 .nil))))))))))))) mixed (by decide +kernel) ?_
      (repeat (first | refine go ?_ | refine goR ?_ | refine goS (fun yc hyc => ?_) | refine goL (fun _ _ => inferInstance) ?_ | with_reducible intro _ | refine goO (by first | omega | (simp only [List.length_cons, List.length_nil]; omega)) ?_ | fail))
      refine WC.draw [] (.p 0 (.l 2 (.l 3 (.p 4 (.h 1 (.h 5 (.h 6 (.p 7 (.p 8 (.p 9 (.p 10 (.p 11 .nil)))))))))))) mixed (by decide +kernel) ?_
      (repeat' (first | refine go ?_ | refine goR ?_ | refine goS (fun yc hyc => ?_) | refine goL (fun _ _ => inferInstance) ?_ | refine goF ?_ ?_ | with_reducible intro _ | refine goO (by first | omega | (simp only [List.length_cons, List.length_nil]; omega)) ?_ | fail))
      all_goals
        refine WC.draw [8] (.p 0 (.l 2 (.f 1 (.f 3 (.p 4 (.p 5 (.p 6 (.h 7 (.h 8 (.p 9 .nil)))))) 7 (.h 3 (.p 4 (.p 5 (.p 6 (.h 8 (.p 9 .nil))))))) 7 (.h 1 (.h 3 (.p 4 (.p 5 (.p 6 (.h 8 (.p 9 .nil)))))))))) mixed (by decide +kernel) ?_
        (repeat' (first | refine go ?_ | refine goR ?_ | refine goS (fun yc hyc => ?_) | refine goL (fun _ _ => inferInstance) ?_ | refine goF ?_ ?_ | with_reducible intro _ | refine goO (by first | omega | (simp only [List.length_cons, List.length_nil]; omega)) ?_ | fail))
      all_goals
        refine WC.draw [] (.l 0 (.l 1 (.l 3 (.l 4 (.h 2 (.h 5 (.p 6 (.p 7 (.l 8 (.p 9 (.l 11 (.p 12 (.h 10 (.h 13 (.p 14 (.p 15 (.p 16 .nil))))))))))))))))) mixed (by decide +kernel) ?_
        (repeat' (first | refine go ?_ | refine goR ?_ | refine goS (fun yc hyc => ?_) | refine goL (fun _ _ => inferInstance) ?_ | refine goF ?_ ?_ | with_reducible intro _ | refine goO (by first | omega | (simp only [List.length_cons, List.length_nil]; omega)) ?_ | fail))
      all_goals exact backN (σ0 := σ) Try.results8 (fun σ' _ _ => hK σ' inferInstance)⟩
end
end Go.Proofs.Ytpnbfohdfffolaa
