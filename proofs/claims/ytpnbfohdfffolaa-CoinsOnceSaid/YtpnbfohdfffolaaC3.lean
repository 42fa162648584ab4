/- coins: worked, all, outs, Coinbase, Find, by contract. No condition. -/
import Derived.Test.YtpnbfohdfffolaaC2
import Derived.Test.YtpnbfohdfffolaaTb
set_option linter.all false
set_option maxHeartbeats 40000000
set_option synthInstance.maxHeartbeats 2000000
set_option synthInstance.maxSize 100000
namespace Go.Proofs.Ytpnbfohdfffolaa
open Go Go.RowKit
abbrev setX (A : Option Addr) (b : Nat) : Xs := .un (.row A 40) (.one b 78)
def foldA (step : List Cn → Cn → Option (List Cn)) (xs ys : List Cn) : Option (List Cn) := ys.foldl (fun o k => o.bind fun s => step s k) (some xs)
theorem foldA_snoc (step : List Cn → Cn → Option (List Cn)) (xs ys : List Cn) (k : Cn) : foldA step xs (ys ++ [k]) = (foldA step xs ys).bind fun s => step s k := by simp [foldA]
theorem foldl_none {α β : Type} (f : β → α → Option β) (l : List α) : l.foldl (fun (o : Option β) k => o.bind fun s => f s k) none = none := by
  induction l with
  | nil => rfl
  | cons k l ih => simpa using ih
theorem foldA_pre {step : List Cn → Cn → Option (List Cn)} {xs ys : List Cn} {i : Nat} (h : foldA step xs (ys.take i) = none) : foldA step xs ys = none := by
  unfold foldA at *
  rw [← List.take_append_drop i ys, List.foldl_append, h]
  exact foldl_none _ _
class ActF (P : Program) (σ0 : St) (fv : Value) (b : outParam Nat) (step : outParam (List Cn → Cn → Option (List Cn))) : Prop where
  len : ∀ xs k zs, step xs k = some zs → zs.length ≤ xs.length + 1
  rule : ∀ (σ : St) (A0 A : Option Addr) (n c : Nat) (xs : List Cn) (k : Cn), Nx σ0 σ (setX A0 b) → Own σ b 78 (cats [#[.slice A n c]]) → Row σ A n c 40 cnE xs → ValRule P fv [.agg (cats [kc k.at_.tx, #[.int .u32 (k.at_.idx.toNat : Int)], #[.int .i64 k.out.val.toInt], kc k.out.lock, #[.int .u32 (k.h.toNat : Int)], #[.bool k.base]])] σ (fun K E => (n ≤ 100000000000) ∧ setS P σ A b .bool (step xs k) K E)
/-- the same, where some of it may have gone wrong -/
def setT (P : Program) (σ : St) (A : Option Addr) (b : Nat) (v : Bool → Value) (o : Option (List Cn)) : Tr := fun K _ =>
  match o with
  | none => ∀ σ', Nx σ σ' (setX A b) → K (v false) σ'
  | some zs => ∀ σ' A' c', Nx σ σ' (setX A b) → RowNew σ A A' → Own σ' b 78 (cats [#[.slice A' zs.length c']]) → Row σ' A' zs.length c' 40 cnE zs → K (v true) σ'
instance {P : Program} {σ : St} {A : Option Addr} {b : Nat} {v : Bool → Value} {K : KV} {E : KE} : Nxt (setT P σ A b v none K E) (∀ σ', Nx σ σ' (setX A b) → K (v false) σ') := ⟨id⟩
instance {P : Program} {σ : St} {A : Option Addr} {b : Nat} {v : Bool → Value} {zs : List Cn} {K : KV} {E : KE} : Nxt (setT P σ A b v (some zs) K E) (∀ σ' A' c', Nx σ σ' (setX A b) → RowNew σ A A' → Own σ' b 78 (cats [#[.slice A' zs.length c']]) → Row σ' A' zs.length c' 40 cnE zs → K (v true) σ') := ⟨id⟩
def outsM (t : Tx) (id : Key) (h : UInt32) : List Cn := (List.range t.outs.l.length).map fun i => ⟨⟨id, UInt32.ofNat i⟩, t.outs.l[i]!, h, cbM t⟩
class OptG (o : Option Cn) (k : outParam Cn) (b : outParam Bool) : Prop where
  eq : o.getD z_cnE = k ∧ o.isSome = b
instance OptG.some {k : Cn} : OptG (some k) k true := ⟨rfl, rfl⟩
instance OptG.none : OptG none z_cnE false := ⟨rfl, rfl⟩
instance (priority := low) OptG.self {o : Option Cn} : OptG o (o.getD z_cnE) o.isSome := ⟨rfl, rfl⟩
theorem outsM_len {t : Tx} {id : Key} {h : UInt32} : (outsM t id h).length = t.outs.l.length := by simp [outsM]
section
variable {σ : St} {A B : Option Addr} {n c m d b : Nat} {xs ys : List Cn} {p q : Pt} {k : Cn} {v1 v2 : Value} {t : Tx} {id : Key}
instance rule_worked [h : SLq σ A n c cnE xs] : CallRule Try.prog 24 [.slice A n c] σ (fun K _ => (n ≤ 100000000000) ∧ ∀ σ' b A', Nx σ σ' .no → NewAt σ b → RowNew σ none A' → Own σ' b 78 (cats [#[.slice A' n n]]) → Row σ' A' n n 40 cnE xs → K (.pointer (some ⟨b, 0, none⟩)) σ') := ⟨fun K E hK => by
  haveI h := h.sl
  obtain ⟨hn, hK⟩ := hK
  have hl := h.len
  refine calls_enter Try.func24 rfl _ Try.ntmps24 rfl ?_
  (repeat (first | refine go ?_ | refine goR ?_ | refine goS (fun yc hyc => ?_) | refine goL (fun _ _ => inferInstance) ?_ | with_reducible intro _ | refine goO (by first | omega | (simp only [List.length_cons, List.length_nil]; omega)) ?_ | fail))
  have e : xs.take (min n n) ++ (List.replicate n z_cnE).drop (min n n) = xs := by simp [← hl]
  refine resN Try.results24 (hK _ _ _ (Sx.nx inferInstance) ⟨(inferInstance : Fresh0 σ _).ge⟩ (Gr.rn inferInstance) inferInstance ?_)
  rw [← e]
  infer_instance⟩
instance rule_all {fv : Value} {step : List Cn → Cn → Option (List Cn)} [af : ActF Try.prog σ fv b step] [o : Own σ b 78 (cats [#[.slice A n c]])] [h : Row σ A n c 40 cnE xs] [rd : RdX σ (setX A b) B m d cnE ys] {o : Option (List Cn)} [q1 : Is (foldA step xs ys) o] :
    CallRule Try.prog 28 [.slice B m d, fv] σ (fun K E => (n + m ≤ 10000000000) ∧ setT Try.prog σ A b .bool o K E) := ⟨fun K E hK => by
  obtain ⟨hn, hK⟩ := hK
  have hq := q1.eq; subst hq
  have hl := h.len
  haveI hrd : ∀ (s : St) [Sx σ (setX A b) s], Rd s B m d cnE ys := fun s hs => rd.h s hs.p
  haveI hrd0 : Rd σ B m d cnE ys := rd.h σ (NxP.rfl_ inferInstance)
  have gl := hrd0.len
  have gm := hrd0.max
  refine calls_enter Try.func28 rfl _ Try.ntmps28 rfl ?_
  (repeat (first | refine go ?_ | refine goR ?_ | refine goS (fun yc hyc => ?_) | refine goL (fun _ _ => inferInstance) ?_ | with_reducible intro _ | refine goO (by first | omega | (simp only [List.length_cons, List.length_nil]; omega)) ?_ | fail))
  refine WC.loopW 261712 (setX A b) (fun (i : Nat) f s => At f 9 (.int .i64 (i : Int)) ∧ i ≤ m ∧ ∃ A1 c1 zs, Own s b 78 (cats [#[.slice A1 zs.length c1]]) ∧ Row s A1 zs.length c1 40 cnE zs ∧ RowNew σ A A1 ∧ foldA step xs (ys.take i) = some zs ∧ zs.length ≤ n + i) (fun i => m - i) 0
    ⟨At.to (.int .i64 0) rfl, Nat.zero_le _, A, c, xs, by rw [hl]; infer_instance, by rw [hl]; infer_instance, Gr.rn inferInstance, rfl, by omega⟩ ?_
  rintro i f s ha hs ⟨a9, hi, A1, c1, zs, ho, hr, hrn, hf, hzl⟩
  by_cases hlt : i < m
  · haveI : BV (decide ((i : Int) < (m : Int))) true := ⟨by simpa using hlt⟩
    haveI : IdxLt i m := ⟨hlt⟩
    haveI : Fits .i64 ((i : Int) + 1) := Fits.i64 (by omega) (by omega)
    have hst : foldA step xs (ys.take (i + 1)) = step zs ys[i]! := by
      rw [take_snoc (by omega), foldA_snoc, hf]; rfl
    haveI hact : ∀ (s2 : St) [Sx σ (setX A b) s2] [Own s2 b 78 (cats [#[.slice A1 zs.length c1]])] [Row s2 A1 zs.length c1 40 cnE zs], ValRule Try.prog fv [.agg (cats [kc ys[i]!.at_.tx, #[.int .u32 (ys[i]!.at_.idx.toNat : Int)], #[.int .i64 ys[i]!.out.val.toInt], kc ys[i]!.out.lock, #[.int .u32 (ys[i]!.h.toNat : Int)], #[.bool ys[i]!.base]])] s2 (fun K E => (zs.length ≤ 100000000000) ∧ setS Try.prog s2 A1 b .bool (step zs ys[i]!) K E) :=
      fun s2 h1 h2 h3 => af.rule s2 A A1 _ c1 zs ys[i]! (Sx.nx h1) h2 h3
    cases hp : step zs ys[i]! with
    | some us =>
      rw [hp] at hst
      have hul := af.len _ _ _ hp
      rw [hp] at hact
      (repeat (first | refine go ?_ | refine goR ?_ | refine goS (fun yc hyc => ?_) | refine goL (fun _ _ => inferInstance) ?_ | with_reducible intro _ | refine goO (by first | omega | (simp only [List.length_cons, List.length_nil]; omega)) ?_ | fail))
      refine loop_w (i + 1) ⟨At.to (.int .i64 ((i : Int) + 1)) (by simp), hlt, _, _, us, inferInstance, inferInstance, Gr.rn inferInstance, hst, by omega⟩ (by omega)
    | none =>
      rw [hp] at hst
      have hnone := foldA_pre hst
      rw [hnone] at hK
      rw [hp] at hact
      (repeat (first | refine go ?_ | refine goR ?_ | refine goS (fun yc hyc => ?_) | refine goL (fun _ _ => inferInstance) ?_ | with_reducible intro _ | refine goO (by first | omega | (simp only [List.length_cons, List.length_nil]; omega)) ?_ | fail))
      exact resN Try.results28 (hK _ (Sx.nx inferInstance))
  · haveI : BV (decide ((i : Int) < (m : Int))) false := ⟨by simpa using hlt⟩
    rw [take_all (by omega)] at hf
    rw [hf] at hK
    (repeat (first | refine go ?_ | refine goR ?_ | refine goS (fun yc hyc => ?_) | refine goL (fun _ _ => inferInstance) ?_ | with_reducible intro _ | refine goO (by first | omega | (simp only [List.length_cons, List.length_nil]; omega)) ?_ | fail))
    exact resN Try.results28 (hK _ A1 c1 (Sx.nx inferInstance) hrn inferInstance inferInstance)⟩
instance rule_outs [h : EncV σ txE v1 t] {hh : Int} {ht : UInt32} [hu : U32 hh ht] : CallRule Try.prog 29 [v1, .agg (kc id), .int .u32 hh] σ (fun K _ => (t.outs.n ≤ 4000000000) ∧ ∀ σ' A' c', Nx σ σ' .no → RowNew σ none A' → Row σ' A' t.outs.n c' 40 cnE (outsM t id ht) → K (.slice A' t.outs.n c') σ') := ⟨fun K E hK => by
  obtain ⟨hn, hK⟩ := hK
  have e1 : v1 = .agg (cats [#[.int .u32 (t.exp.toNat : Int)], #[.slice t.ins.A t.ins.n t.ins.c], #[.slice t.outs.A t.outs.n t.outs.c], kc t.anchor, #[.slice t.nulls.A t.nulls.n t.nulls.c], #[.slice t.notes.A t.notes.n t.notes.c], #[.int .i64 t.bal.toInt]]) := h.eq
  subst e1
  have e2 := hu.eq
  subst e2
  haveI : OkE σ txE t := ⟨h.ok⟩
  have hl := (inferInstance : SL σ t.outs.A t.outs.n t.outs.c otE t.outs.l).len
  have hm := (inferInstance : SL σ t.outs.A t.outs.n t.outs.c otE t.outs.l).max
  refine calls_enter Try.func29 rfl _ Try.ntmps29 rfl ?_
  (repeat (first | refine go ?_ | refine goR ?_ | refine goS (fun yc hyc => ?_) | refine goL (fun _ _ => inferInstance) ?_ | with_reducible intro _ | refine goO (by first | omega | (simp only [List.length_cons, List.length_nil]; omega)) ?_ | fail))
  rename St => s0
  refine WC.loopW 2147476352 .no (fun (i : Nat) f s => At f 13 (.int .i64 (i : Int)) ∧ i ≤ t.outs.n ∧ ∃ A1 c1, At f 7 (.slice A1 i c1) ∧ Row s A1 i c1 40 cnE ((outsM t id ht).take i) ∧ RowNew s0 none A1) (fun i => t.outs.n - i) 0
    ⟨At.to (.int .i64 0) rfl, Nat.zero_le _, none, 0, inferInstance, by rw [List.take_zero]; exact Row.nil_, ⟨nofun⟩⟩ ?_
  rintro i f s ha hs ⟨a13, hi, A1, c1, a7, hr, hrn⟩
  by_cases hlt : i < t.outs.n
  · haveI : BV (decide ((i : Int) < (t.outs.n : Int))) true := ⟨by simpa using hlt⟩
    haveI : IdxLt i t.outs.n := ⟨hlt⟩
    haveI : Fits .i64 ((i : Int) + 1) := Fits.i64 (by omega) (by omega)
    haveI : Fits .u32 (i : Int) := Fits.u32 (by omega) (by omega)
    have hst : (outsM t id ht).take (i + 1) = (outsM t id ht).take i ++ [⟨⟨id, UInt32.ofNat i⟩, t.outs.l[i]!, ht, cbM t⟩] := by
      rw [take_snoc (by rw [outsM_len]; omega)]
      congr 2
      rw [getElem!_pos _ i (by rw [outsM_len]; omega)]
      simp [outsM]
    (repeat (first | refine go ?_ | refine goR ?_ | refine goS (fun yc hyc => ?_) | refine goL (fun _ _ => inferInstance) ?_ | with_reducible intro _ | refine goO (by first | omega | (simp only [List.length_cons, List.length_nil]; omega)) ?_ | fail))
    refine WC.draw [11] (.p 0 (.l 1 (.p 2 (.l 3 (.l 4 (.l 5 (.p 6 (.l 7 (.h 8 (.l 9 (.h 10 (.h 11 (.p 12 .nil))))))))))))) mixed (by decide +kernel) ?_
    (repeat' (first | refine go ?_ | refine goR ?_ | refine goS (fun yc hyc => ?_) | refine goL (fun _ _ => inferInstance) ?_ | refine goF ?_ ?_ | with_reducible intro _ | refine goO (by first | omega | (simp only [List.length_cons, List.length_nil]; omega)) ?_ | fail))
    all_goals exact loop_w (i + 1) ⟨At.to (.int .i64 ((i : Int) + 1)) (by simp), hlt, _, _, inferInstance, by rw [hst]; infer_instance, Gr.rn inferInstance⟩ (by omega)
  · haveI : BV (decide ((i : Int) < (t.outs.n : Int))) false := ⟨by simpa using hlt⟩
    have e : i = t.outs.n := by omega
    subst e
    rw [take_all (by rw [outsM_len]; omega)] at hr
    (repeat (first | refine go ?_ | refine goR ?_ | refine goS (fun yc hyc => ?_) | refine goL (fun _ _ => inferInstance) ?_ | with_reducible intro _ | refine goO (by first | omega | (simp only [List.length_cons, List.length_nil]; omega)) ?_ | fail))
    exact resN Try.results29 (hK _ _ _ (Sx.nx inferInstance) (Gr.rn inferInstance) inferInstance)⟩
instance rule_Find [h : SLq σ A n c cnE xs] [h1 : ValOf ptE v1 p] {o : Option Nat} [q1 : Is (placeC xs p) o] {oc : Option Cn} [q2 : Is (o.map fun i => xs[i]!) oc] {kk : Cn} {bb : Bool} [q3 : OptG oc kk bb] : CallRule Try.prog 13 [.slice A n c, v1] σ (fun K _ => ∀ σ', Nx σ σ' .no → K (.tuple #[.agg (cats [kc kk.at_.tx, #[.int .u32 (kk.at_.idx.toNat : Int)], #[.int .i64 kk.out.val.toInt], kc kk.out.lock, #[.int .u32 (kk.h.toNat : Int)], #[.bool kk.base]]), .bool bb]) σ') := ⟨fun K E hK => by
  haveI h := h.sl
  have e1 : v1 = .agg (cats [kc p.tx, #[.int .u32 (p.idx.toNat : Int)]]) := h1.eq
  subst e1
  have hq := q1.eq; subst hq
  have hq := q2.eq; subst hq
  obtain ⟨hq, hq2⟩ := q3.eq
  subst hq; subst hq2
  have hl := h.len
  cases hp : placeC xs p with
  | none =>
    haveI : Is (placeC xs p) none := ⟨hp⟩
    haveI : BV (decide ((-1 : Int) < 0)) true := ⟨by simp⟩
    rw [hp] at hK
    refine calls_enter Try.func13 rfl _ Try.ntmps13 rfl ?_
    (repeat (first | refine go ?_ | refine goR ?_ | refine goS (fun yc hyc => ?_) | refine goL (fun _ _ => inferInstance) ?_ | with_reducible intro _ | refine goO (by first | omega | (simp only [List.length_cons, List.length_nil]; omega)) ?_ | fail))
    exact backN (σ0 := σ) Try.results13 (fun σ' _ _ => hK σ' inferInstance)
  | some i =>
    have hi := findIdx_lt hp
    haveI : Is (placeC xs p) (some i) := ⟨hp⟩
    haveI : BV (decide ((i : Int) < 0)) false := ⟨by simp⟩
    haveI : IdxLt i n := ⟨by omega⟩
    rw [hp] at hK
    refine calls_enter Try.func13 rfl _ Try.ntmps13 rfl ?_
    (repeat (first | refine go ?_ | refine goR ?_ | refine goS (fun yc hyc => ?_) | refine goL (fun _ _ => inferInstance) ?_ | with_reducible intro _ | refine goO (by first | omega | (simp only [List.length_cons, List.length_nil]; omega)) ?_ | fail))
    exact backN (σ0 := σ) Try.results13 (fun σ' _ _ => hK σ' inferInstance)⟩
end
end Go.Proofs.Ytpnbfohdfffolaa
