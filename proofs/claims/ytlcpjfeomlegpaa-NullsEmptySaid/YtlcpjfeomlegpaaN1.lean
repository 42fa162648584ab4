/- nulls: changed, Free, Spend, Undo, and the document's, by contract. No condition. -/
import Derived.Test.YtlcpjfeomlegpaaK5
import Derived.Test.YtlcpjfeomlegpaaKp
set_option linter.all false
set_option maxHeartbeats 40000000
set_option synthInstance.maxHeartbeats 2000000
set_option synthInstance.maxSize 100000
namespace Go.Proofs.Ytlcpjfeomlegpaa
open Go Go.RowKit
def chgM (f : List Key → Key → List Key) (p : List Key → Key → Bool) : List Key → List Key → Option (List Key)
  | s, [] => some s
  | s, k :: l => if p s k then chgM f p (f s k) l else none
theorem chgM_snoc (f : List Key → Key → List Key) (p : List Key → Key → Bool) (l : List Key) (k : Key) : ∀ s, chgM f p s (l ++ [k]) = (chgM f p s l).bind fun t => if p t k then some (f t k) else none := by
  induction l with
  | nil => intro s; simp [chgM]
  | cons x l ih =>
    intro s
    simp only [List.cons_append, chgM]
    split
    · exact ih _
    · rfl
theorem chgM_app (f : List Key → Key → List Key) (p : List Key → Key → Bool) (l m : List Key) : ∀ s, chgM f p s (l ++ m) = (chgM f p s l).bind fun t => chgM f p t m := by
  induction l with
  | nil => intro s; simp [chgM]
  | cons x l ih =>
    intro s
    simp only [List.cons_append, chgM]
    split
    · exact ih _
    · rfl
theorem chgM_pre {f : List Key → Key → List Key} {p : List Key → Key → Bool} {s l : List Key} {i : Nat} (h : chgM f p s (l.take i) = none) : chgM f p s l = none := by
  rw [← List.take_append_drop i l, chgM_app, h]; rfl
def spendM (s l : List Key) : Option (List Key) := if !meetK s l && distK l then some (l.foldl insK s) else none
abbrev undoM (s l : List Key) : Option (List Key) := chgM remK hasK s l
theorem chg_spend : ∀ (l s : List Key), meetK s l = false → distK l = true → chgM insK (fun s k => !hasK s k) s l = some (l.foldl insK s)
  | [], s, _, _ => rfl
  | k :: l, s, hm, hd => by
    unfold distK at hd
    simp only [decide_eq_true_eq, List.nodup_cons] at hd
    have h1 : hasK s k = false := by
      rw [Bool.eq_false_iff]
      intro h
      have : meetK s (k :: l) = true := meetK_iff.2 ⟨k, hasK_iff.1 h, by simp⟩
      rw [hm] at this; cases this
    have h2 : meetK (insK s k) l = false := by
      rw [Bool.eq_false_iff]
      intro h
      obtain ⟨j, hj, hl⟩ := meetK_iff.1 h
      rw [← hasK_iff, has_insK_iff] at hj
      simp only [Bool.or_eq_true, decide_eq_true_eq] at hj
      rcases hj with rfl | hj
      · exact hd.1 hl
      · have : meetK s (k :: l) = true := meetK_iff.2 ⟨j, hasK_iff.1 hj, by simp [hl]⟩
        rw [hm] at this; cases this
    simp only [chgM, h1, Bool.not_false, if_true, List.foldl_cons]
    exact chg_spend l _ h2 (by unfold distK; simpa using hd.2)
class OptKs (o : Option (List Key)) (zs : outParam (List Key)) : Prop where
  eq : o.getD [] = zs
instance OptKs.some {z : List Key} : OptKs (some z) z := ⟨rfl⟩
instance OptKs.none : OptKs none [] := ⟨rfl⟩
instance (priority := low) OptKs.self {o : Option (List Key)} : OptKs o (o.getD []) := ⟨rfl⟩
class OptE {α : Type} (o : Option α) (e : Int) (ee : outParam Int) : Prop where
  eq : (if o.isSome then 0 else e) = ee
instance OptE.some {α : Type} {z : α} {e : Int} : OptE (some z) e 0 := ⟨rfl⟩
instance OptE.none {α : Type} {e : Int} : OptE (none : Option α) e e := ⟨rfl⟩
instance (priority := low) OptE.self {α : Type} {o : Option α} {e : Int} : OptE o e (if o.isSome then 0 else e) := ⟨rfl⟩
/-- a function value that changes a set by a key, if it may -/
class ByF (P : Program) (fv : Value) (f : outParam (List Key → Key → List Key)) (p : outParam (List Key → Key → Bool)) : Prop where
  len : ∀ s k, (f s k).length ≤ s.length + 1
  rule : ∀ (σ : St) (A : Option Addr) (n c : Nat) (xs : List Key) (k : Key), SL σ A n c keyE xs → ValRule P fv [.slice A n c, .agg (kc k)] σ (fun K _ => (n ≤ 200000000000) ∧ ∀ σ' A' c', Nx σ σ' .no → SL σ' A' (f xs k).length c' keyE (f xs k) → K (.tuple #[.slice A' (f xs k).length c', .bool (p xs k)]) σ')
theorem foldl_len (l : List Key) : ∀ s, (l.foldl insK s).length ≤ s.length + l.length := by
  induction l with
  | nil => intro s; simp
  | cons k l ih => intro s; have := ih (insK s k); have := len_insK s k; simp only [List.foldl_cons, List.length_cons]; omega
section
variable {σ : St} {A B : Option Addr} {n c m d : Nat} {xs ys : List Key} {k : Key}
instance rule_insert1 [h : SL σ A n c keyE xs] : CallRule Try.prog 18 [.slice A n c, .agg (kc k)] σ (fun K _ => (n ≤ 200000000000) ∧ ∀ σ' A' c', Nx σ σ' .no → SL σ' A' (insK xs k).length c' keyE (insK xs k) → K (.tuple #[.slice A' (insK xs k).length c', .bool (!hasK xs k)]) σ') := ⟨fun K E hK => by
  obtain ⟨hn, hK⟩ := hK
  refine calls_enter Try.func18 rfl _ Try.ntmps18 rfl ?_
  (repeat (first | refine go ?_ | refine goR ?_ | refine goS (fun yc hyc => ?_) | refine goL (fun _ _ => inferInstance) ?_ | with_reducible intro _ | refine goO (by first | omega | (simp only [List.length_cons, List.length_nil]; omega)) ?_ | fail))
  exact back2 (σ0 := σ) Try.results18 (fun σ' _ _ => hK σ' _ _ inferInstance inferInstance)⟩
instance by_insert : ByF Try.prog (.func (.func 18) #[] #[]) insK (fun s k => !hasK s k) := ⟨len_insK, fun σ A n c xs k h => inferInstance⟩
instance by_remove : ByF Try.prog (.func (.func 22) #[] #[]) remK hasK := ⟨fun s k => Nat.le_succ_of_le (len_remK_le s k), fun σ A n c xs k h => inferInstance⟩
instance rule_byf {P : Program} {fv : Value} {f : List Key → Key → List Key} {p : List Key → Key → Bool} [h : SL σ A n c keyE xs] [bf : ByF P fv f p] : ValRule P fv [.slice A n c, .agg (kc k)] σ (fun K _ => (n ≤ 200000000000) ∧ ∀ σ' A' c', Nx σ σ' .no → SL σ' A' (f xs k).length c' keyE (f xs k) → K (.tuple #[.slice A' (f xs k).length c', .bool (p xs k)]) σ') := bf.rule σ A n c xs k h
instance rule_changed {fv : Value} {e ee : Int} {f : List Key → Key → List Key} {p : List Key → Key → Bool} [h : SL σ A n c keyE xs] [g : SL σ B m d keyE ys] [bf : ByF Try.prog fv f p] {o : Option (List Key)} {zs : List Key} [q1 : Is (chgM f p xs ys) o] [q2 : OptKs o zs] [q3 : OptE o e ee] :
    CallRule Try.prog 20 [.slice A n c, .slice B m d, fv, .int .i64 e] σ (fun K _ => (n + m ≤ 100000000000) ∧ ∀ σ' A' c', Nx σ σ' .no → SL σ' A' zs.length c' keyE zs → K (.tuple #[.slice A' zs.length c', .int .i64 ee]) σ') := ⟨fun K E hK => by
  have hq := q1.eq; subst hq
  have hq := q2.eq; subst hq
  have hq := q3.eq; subst hq
  obtain ⟨hn, hK⟩ := hK
  have hl := h.len
  have gl := g.len
  refine calls_enter Try.func20 rfl _ Try.ntmps20 rfl ?_
  (repeat (first | refine go ?_ | refine goR ?_ | refine goS (fun yc hyc => ?_) | refine goL (fun _ _ => inferInstance) ?_ | with_reducible intro _ | refine goO (by first | omega | (simp only [List.length_cons, List.length_nil]; omega)) ?_ | fail))
  rename Option Addr => A0
  refine WC.freeze A0 (fun s1 hn1 hs1 => ?_)
  haveI := Sub.nx (σ0 := σ) (inferInstance : Sub σ s1)
  refine WC.loopW 17179622145 .no (fun (i : Nat) fr s => At fr 18 (.int .i64 (i : Int)) ∧ i ≤ m ∧ ∃ A1 c1 zs, At fr 0 (.slice A1 zs.length c1) ∧ SL s A1 zs.length c1 keyE zs ∧ chgM f p xs (ys.take i) = some zs ∧ zs.length ≤ n + i) (fun i => m - i) 0
    ⟨At.to (.int .i64 0) rfl, Nat.zero_le _, A0, _, xs, by rw [hl]; infer_instance, by rw [hl]; infer_instance, by rw [List.take_zero]; rfl, by omega⟩ ?_
  rintro i fr s ha hs ⟨a18, hi, A1, c1, zs, a0, hr, hc, hzl⟩
  by_cases hlt : i < m
  · haveI : BV (decide ((i : Int) < (m : Int))) true := ⟨by simpa using hlt⟩
    haveI : IdxLt i m := ⟨hlt⟩
    haveI : Fits .i64 ((i : Int) + 1) := Fits.i64 (by have := g.max; omega) (by have := g.max; omega)
    have hst : chgM f p xs (ys.take (i + 1)) = if p zs ys[i]! then some (f zs ys[i]!) else none := by
      rw [take_snoc (by omega), chgM_snoc, hc]; rfl
    have hfl := bf.len zs ys[i]!
    cases hp : p zs ys[i]! with
    | true =>
      haveI : BV (p zs ys[i]!) true := ⟨hp⟩
      (repeat (first | refine go ?_ | refine goR ?_ | refine goS (fun yc hyc => ?_) | refine goL (fun _ _ => inferInstance) ?_ | with_reducible intro _ | refine goO (by first | omega | (simp only [List.length_cons, List.length_nil]; omega)) ?_ | fail))
      refine loop_w (i + 1) ⟨At.to (.int .i64 ((i : Int) + 1)) (by simp), hlt, _, _, f zs ys[i]!, inferInstance, inferInstance, by rw [hst, hp]; rfl, by omega⟩ (by omega)
    | false =>
      haveI : BV (p zs ys[i]!) false := ⟨hp⟩
      rw [hp] at hst
      have hnone := chgM_pre hst
      rw [hnone] at hK
      (repeat (first | refine go ?_ | refine goR ?_ | refine goS (fun yc hyc => ?_) | refine goL (fun _ _ => inferInstance) ?_ | with_reducible intro _ | refine goO (by first | omega | (simp only [List.length_cons, List.length_nil]; omega)) ?_ | fail))
      exact back2 (σ0 := σ) Try.results20 (fun σ' _ _ => hK σ' none 0 inferInstance SL.nil_)
  · haveI : BV (decide ((i : Int) < (m : Int))) false := ⟨by simpa using hlt⟩
    rw [take_all (by omega)] at hc
    rw [hc] at hK
    (repeat (first | refine go ?_ | refine goR ?_ | refine goS (fun yc hyc => ?_) | refine goL (fun _ _ => inferInstance) ?_ | with_reducible intro _ | refine goO (by first | omega | (simp only [List.length_cons, List.length_nil]; omega)) ?_ | fail))
    exact back2 (σ0 := σ) Try.results20 (fun σ' _ _ => hK σ' _ _ inferInstance inferInstance)⟩
end
end Go.Proofs.Ytlcpjfeomlegpaa
