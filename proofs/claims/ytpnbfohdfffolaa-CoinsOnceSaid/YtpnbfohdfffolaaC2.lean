/- coins: take, put, worked, all, Coinbase, by contract. No condition. -/
import Derived.Test.YtpnbfohdfffolaaC1
set_option linter.all false
set_option maxHeartbeats 40000000
set_option synthInstance.maxHeartbeats 2000000
set_option synthInstance.maxSize 100000
namespace Go.Proofs.Ytpnbfohdfffolaa
open Go Go.RowKit
instance (priority := 60) U32.fitN {i : Nat} [h : Fits .u32 (i : Int)] : U32 (i : Int) (UInt32.ofNat i) := by
  have := (inferInstance : U32 (i : Int) (UInt32.ofNat (i : Int).toNat))
  rwa [Int.toNat_natCast] at this
/-- a set of coins that is worked on: what was done to it -/
def setS (P : Program) (σ : St) (A : Option Addr) (b : Nat) (v : Bool → Value) (o : Option (List Cn)) : Tr := fun K _ =>
  match o with
  | none => ∀ σ', Nx σ σ' .no → K (v false) σ'
  | some zs => ∀ σ' A' c', Nx σ σ' (.un (.row A 40) (.one b 78)) → RowNew σ A A' → Own σ' b 78 (cats [#[.slice A' zs.length c']]) → Row σ' A' zs.length c' 40 cnE zs → K (v true) σ'
instance {P : Program} {σ : St} {A : Option Addr} {b : Nat} {v : Bool → Value} {K : KV} {E : KE} : Nxt (setS P σ A b v none K E) (∀ σ', Nx σ σ' .no → K (v false) σ') := ⟨id⟩
instance {P : Program} {σ : St} {A : Option Addr} {b : Nat} {v : Bool → Value} {zs : List Cn} {K : KV} {E : KE} : Nxt (setS P σ A b v (some zs) K E) (∀ σ' A' c', Nx σ σ' (.un (.row A 40) (.one b 78)) → RowNew σ A A' → Own σ' b 78 (cats [#[.slice A' zs.length c']]) → Row σ' A' zs.length c' 40 cnE zs → K (v true) σ') := ⟨id⟩
theorem putC_len {xs zs : List Cn} {k : Cn} (h : putC xs k = some zs) : zs.length = xs.length + 1 := by
  unfold putC at h
  split at h
  · cases h
  · injection h with h; subst h
    have := putI_le xs k
    simp; omega
section
variable {σ : St} {A B : Option Addr} {n c m d b : Nat} {xs ys : List Cn} {p q : Pt} {k : Cn} {v1 v2 : Value}
instance rule_put [o : Own σ b 78 (cats [#[.slice A n c]])] [h : Row σ A n c 40 cnE xs] [h1 : ValOf cnE v1 k] {o : Option (List Cn)} [q1 : Is (putC xs k) o] :
    CallRule Try.prog 30 [.pointer (some ⟨b, 0, none⟩), v1] σ (fun K E => (n ≤ 100000000000) ∧ setS Try.prog σ A b .bool o K E) := ⟨fun K E hK => by
  have e1 : v1 = .agg (cats [kc k.at_.tx, #[.int .u32 (k.at_.idx.toNat : Int)], #[.int .i64 k.out.val.toInt], kc k.out.lock, #[.int .u32 (k.h.toNat : Int)], #[.bool k.base]]) := h1.eq
  subst e1
  obtain ⟨hn, hK⟩ := hK
  have hq := q1.eq; subst hq
  have hl := h.len
  have hle := h.le
  have hmx := h.max
  cases hp : placeC xs k.at_ with
  | some i =>
    haveI : Is (placeC xs k.at_) (some i) := ⟨hp⟩
    haveI : BV (decide (0 ≤ (i : Int))) true := ⟨by simp⟩
    have e : putC xs k = none := by unfold putC; rw [hp]
    rw [e] at hK
    refine calls_enter Try.func30 rfl _ Try.ntmps30 rfl ?_
    (repeat (first | refine go ?_ | refine goR ?_ | refine goS (fun yc hyc => ?_) | refine goL (fun _ _ => inferInstance) ?_ | with_reducible intro _ | refine goO (by first | omega | (simp only [List.length_cons, List.length_nil]; omega)) ?_ | fail))
    exact backN (σ0 := σ) Try.results30 (fun σ' _ _ => hK σ' inferInstance)
  | none =>
    haveI : Is (placeC xs k.at_) none := ⟨hp⟩
    haveI : BV (decide (0 ≤ (-1 : Int))) false := ⟨by simp⟩
    have e : putC xs k = some (xs.take (putI xs k) ++ k :: xs.drop (putI xs k)) := by unfold putC; rw [hp]
    have e2 : (xs.take (putI xs k) ++ k :: xs.drop (putI xs k)).length = n + 1 := by have := putI_le xs k; simp; omega
    rw [e] at hK
    unfold setS at hK
    simp only [e2] at hK
    cases h2 : xs.findIdx? (fun x => plt k.at_ x.at_) with
    | some i =>
      haveI : Is (xs.findIdx? fun x => plt k.at_ x.at_) (some i) := ⟨h2⟩
      have e3 : putI xs k = i := by unfold putI; rw [h2]; rfl
      have hi := findIdx_lt h2
      haveI : LeN i n := ⟨by omega⟩
      haveI : BV (decide ((i : Int) < 0)) false := ⟨by simp⟩
      rw [e3] at hK
      refine calls_enter Try.func30 rfl _ Try.ntmps30 rfl ?_
      (repeat (first | refine go ?_ | refine goR ?_ | refine goS (fun yc hyc => ?_) | refine goL (fun _ _ => inferInstance) ?_ | with_reducible intro _ | refine goO (by first | omega | (simp only [List.length_cons, List.length_nil]; omega)) ?_ | fail))
      refine WC.draw [8, 11] (.p 0 (.p 1 (.l 2 (.l 3 (.l 4 (.p 5 (.l 6 (.h 7 (.h 8 (.l 9 (.l 10 (.h 11 .nil)))))))))))) mixed (by decide +kernel) ?_
      (repeat (first | refine go ?_ | refine goR ?_ | refine goS (fun yc hyc => ?_) | refine goL (fun _ _ => inferInstance) ?_ | with_reducible intro _ | refine goO (by first | omega | (simp only [List.length_cons, List.length_nil]; omega)) ?_ | fail))
      exact resN Try.results30 (hK _ _ _ (Sx.nx inferInstance) (Gr.rn inferInstance) inferInstance inferInstance)
    | none =>
      haveI : Is (xs.findIdx? fun x => plt k.at_ x.at_) none := ⟨h2⟩
      have e3 : putI xs k = n := by unfold putI; rw [h2]; exact hl
      haveI : BV (decide ((-1 : Int) < 0)) true := ⟨by simp⟩
      rw [e3] at hK
      refine calls_enter Try.func30 rfl _ Try.ntmps30 rfl ?_
      (repeat (first | refine go ?_ | refine goR ?_ | refine goS (fun yc hyc => ?_) | refine goL (fun _ _ => inferInstance) ?_ | with_reducible intro _ | refine goO (by first | omega | (simp only [List.length_cons, List.length_nil]; omega)) ?_ | fail))
      refine WC.draw [8, 11] (.p 0 (.p 1 (.l 2 (.l 3 (.l 4 (.p 5 (.l 6 (.h 7 (.h 8 (.l 9 (.l 10 (.h 11 .nil)))))))))))) mixed (by decide +kernel) ?_
      (repeat (first | refine go ?_ | refine goR ?_ | refine goS (fun yc hyc => ?_) | refine goL (fun _ _ => inferInstance) ?_ | with_reducible intro _ | refine goO (by first | omega | (simp only [List.length_cons, List.length_nil]; omega)) ?_ | fail))
      exact resN Try.results30 (hK _ _ _ (Sx.nx inferInstance) (Gr.rn inferInstance) inferInstance inferInstance)⟩
class OptC (o : Option (Cn × List Cn)) (k : outParam Cn) (z : outParam (Option (List Cn))) : Prop where
  eq : o.elim z_cnE (·.1) = k ∧ o.map (·.2) = z
instance OptC.some {k : Cn} {zs : List Cn} : OptC (some (k, zs)) k (some zs) := ⟨rfl, rfl⟩
instance OptC.none : OptC none z_cnE none := ⟨rfl, rfl⟩
instance (priority := low) OptC.self {o : Option (Cn × List Cn)} : OptC o (o.elim z_cnE (·.1)) (o.map (·.2)) := ⟨rfl, rfl⟩
instance rule_take {pv fv : Value} {pp : Cn → Bool} [o : Own σ b 78 (cats [#[.slice A n c]])] [h : Row σ A n c 40 cnE xs] [h1 : ValOf ptE pv p] [pf : PredF Try.prog σ .no fv cnE pp] {o : Option (Cn × List Cn)} [q1 : Is (takeM xs p pp) o] {kk : Cn} {oz : Option (List Cn)} [q2 : OptC o kk oz] :
    CallRule Try.prog 26 [.pointer (some ⟨b, 0, none⟩), pv, fv] σ (fun K E => (n ≤ 100000000000) ∧ setS Try.prog σ A b (fun r => .tuple #[.agg (cats [kc kk.at_.tx, #[.int .u32 (kk.at_.idx.toNat : Int)], #[.int .i64 kk.out.val.toInt], kc kk.out.lock, #[.int .u32 (kk.h.toNat : Int)], #[.bool kk.base]]), .bool r]) oz K E) := ⟨fun K E hK => by
  obtain ⟨hq, hq2⟩ := q2.eq
  subst hq; subst hq2
  have e1 : pv = .agg (cats [kc p.tx, #[.int .u32 (p.idx.toNat : Int)]]) := h1.eq
  subst e1
  obtain ⟨hn, hK⟩ := hK
  have hq := q1.eq; subst hq
  have hl := h.len
  have hle := h.le
  have hmx := h.max
  cases hp : placeC xs p with
  | none =>
    haveI : Is (placeC xs p) none := ⟨hp⟩
    haveI : BV (decide ((-1 : Int) < 0)) true := ⟨by simp⟩
    have e : takeM xs p pp = none := by unfold takeM; rw [hp]
    rw [e] at hK
    refine calls_enter Try.func26 rfl _ Try.ntmps26 rfl ?_
    (repeat (first | refine go ?_ | refine goR ?_ | refine goS (fun yc hyc => ?_) | refine goL (fun _ _ => inferInstance) ?_ | with_reducible intro _ | refine goO (by first | omega | (simp only [List.length_cons, List.length_nil]; omega)) ?_ | fail))
    exact backN (σ0 := σ) Try.results26 (fun σ' _ _ => hK σ' inferInstance)
  | some i =>
    have hi : i < n := by have := findIdx_lt hp; omega
    haveI : Is (placeC xs p) (some i) := ⟨hp⟩
    haveI : BV (decide ((i : Int) < 0)) false := ⟨by simp⟩
    haveI : IdxLt i n := ⟨hi⟩
    haveI : LeN i (i + 1) := ⟨by omega⟩
    haveI : LeN (i + 1) n := ⟨by omega⟩
    haveI : Fits .i64 ((i : Int) + 1) := Fits.i64 (by omega) (by omega)
    haveI hpr : ∀ (s : St) [Sx σ .no s], ValRule Try.prog fv [.agg (cats [kc xs[i]!.at_.tx, #[.int .u32 (xs[i]!.at_.idx.toNat : Int)], #[.int .i64 xs[i]!.out.val.toInt], kc xs[i]!.out.lock, #[.int .u32 (xs[i]!.h.toNat : Int)], #[.bool xs[i]!.base]])] s (fun K _ => ∀ σ'', Nx s σ'' .no → K (.bool (pp xs[i]!)) σ'') := fun s hs => pf.rule s xs[i]! (Sx.nx hs) inferInstance
    have e : takeM xs p pp = if pp xs[i]! then some (xs[i]!, xs.take i ++ xs.drop (i + 1)) else none := by unfold takeM; rw [hp]
    cases hpi : pp xs[i]! with
    | false =>
      rw [e, hpi] at hK
      haveI : BV (pp xs[i]!) false := ⟨hpi⟩
      refine calls_enter Try.func26 rfl _ Try.ntmps26 rfl ?_
      (repeat (first | refine go ?_ | refine goR ?_ | refine goS (fun yc hyc => ?_) | refine goL (fun _ _ => inferInstance) ?_ | with_reducible intro _ | refine goO (by first | omega | (simp only [List.length_cons, List.length_nil]; omega)) ?_ | fail))
      exact backN (σ0 := σ) Try.results26 (fun σ' _ _ => hK σ' inferInstance)
    | true =>
      rw [e, hpi] at hK
      haveI : BV (pp xs[i]!) true := ⟨hpi⟩
      have e2 : (xs.take i ++ xs.drop (i + 1)).length = i + (n - (i + 1)) := by simp; omega
      unfold setS at hK
      simp only [if_true, Option.map_some, e2, Option.elim_some] at hK
      refine calls_enter Try.func26 rfl _ Try.ntmps26 rfl ?_
      (repeat (first | refine go ?_ | refine goR ?_ | refine goS (fun yc hyc => ?_) | refine goL (fun _ _ => inferInstance) ?_ | with_reducible intro _ | refine goO (by first | omega | (simp only [List.length_cons, List.length_nil]; omega)) ?_ | fail))
      exact resN Try.results26 (hK _ _ _ (Sx.nx inferInstance) (Gr.rn inferInstance) inferInstance inferInstance)⟩
end
end Go.Proofs.Ytpnbfohdfffolaa
