/- coins: Apply, Undo, by contract. No condition. -/
import Derived.Test.YtpnbfohdfffolaaC3
set_option linter.all false
set_option maxHeartbeats 40000000
set_option synthInstance.maxHeartbeats 2000000
set_option synthInstance.maxSize 100000
namespace Go.Proofs.Ytpnbfohdfffolaa
open Go Go.RowKit
def takesM (q : Cn → Bool) (xs : List Cn) (ps : List Pt) : Option (List Cn × List Cn) := ps.foldl (fun o p => o.bind fun s => (takeM s.1 p q).map fun r => (r.2, s.2 ++ [r.1])) (some (xs, []))
theorem takesM_snoc (q : Cn → Bool) (xs : List Cn) (ps : List Pt) (p : Pt) : takesM q xs (ps ++ [p]) = (takesM q xs ps).bind fun s => (takeM s.1 p q).map fun r => (r.2, s.2 ++ [r.1]) := by simp [takesM]
theorem takesM_pre {q : Cn → Bool} {xs : List Cn} {ps : List Pt} {i : Nat} (h : takesM q xs (ps.take i) = none) : takesM q xs ps = none := by
  unfold takesM at *
  rw [← List.take_append_drop i ps, List.foldl_append, h]
  exact foldl_none _ _
theorem takeM_len {xs zs : List Cn} {p : Pt} {q : Cn → Bool} {k : Cn} (h : takeM xs p q = some (k, zs)) : zs.length + 1 = xs.length := by
  unfold takeM at h
  split at h
  · cases h
  · rename_i i hi
    split at h
    · injection h with h; injection h with _ h; subst h
      have := findIdx_lt hi
      simp; omega
    · cases h
def spentM (s : List Cn) (t : Tx) (h : UInt32) : Option (List Cn × List Cn) := if cbM t then some (s, []) else takesM (fun k => ripe k h) s t.ins.l
def applyR (s : List Cn) (t : Tx) (id : Key) (h : UInt32) : List Cn × List Cn × Int :=
  match spentM s t h with
  | none => ([], [], 160)
  | some us => match foldA putC us.1 (outsM t id h) with
    | none => ([], [], 4)
    | some v => (v, us.2, 0)
def goneM (s : List Cn) (k : Cn) : Option (List Cn) := (takeM s k.at_ fun _ => true).map (·.2)
def undoR (s : List Cn) (t : Tx) (id : Key) (sp : List Cn) : List Cn × Int :=
  match foldA goneM s (outsM t id 0).reverse with
  | none => ([], 3)
  | some u => match foldA putC u sp.reverse with
    | none => ([], 4)
    | some v => (v, 0)
theorem foldA_len {step : List Cn → Cn → Option (List Cn)} (hs : ∀ xs k zs, step xs k = some zs → zs.length ≤ xs.length + 1) : ∀ (ys xs : List Cn) (zs : List Cn), foldA step xs ys = some zs → zs.length ≤ xs.length + ys.length
  | [], xs, zs, h => by injection h with h; subst h; simp
  | k :: ys, xs, zs, h => by
    unfold foldA at h
    simp only [List.foldl_cons, Option.bind_some] at h
    cases hk : step xs k with
    | none => rw [hk, foldl_none] at h; cases h
    | some us =>
      rw [hk] at h
      have h1 := foldA_len hs ys us zs h
      have h2 := hs _ _ _ hk
      simp only [List.length_cons]; omega
theorem goneM_len {xs zs : List Cn} {k : Cn} (h : goneM xs k = some zs) : zs.length + 1 = xs.length := by
  unfold goneM at h
  cases ht : takeM xs k.at_ (fun _ => true) with
  | none => rw [ht] at h; cases h
  | some r =>
    obtain ⟨kk, zs'⟩ := r
    rw [ht] at h; injection h with h; subst h
    exact takeM_len ht
class OptA (r : List Cn × List Cn × Int) (a b : outParam (List Cn)) (e : outParam Int) : Prop where
  eq : r.1 = a ∧ r.2.1 = b ∧ r.2.2 = e
instance OptA.mk_ {a b : List Cn} {e : Int} : OptA (a, b, e) a b e := ⟨rfl, rfl, rfl⟩
instance (priority := low) OptA.self {r : List Cn × List Cn × Int} : OptA r r.1 r.2.1 r.2.2 := ⟨rfl, rfl, rfl⟩
class OptU (r : List Cn × Int) (a : outParam (List Cn)) (e : outParam Int) : Prop where
  eq : r.1 = a ∧ r.2 = e
instance OptU.mk_ {a : List Cn} {e : Int} : OptU (a, e) a e := ⟨rfl, rfl⟩
instance (priority := low) OptU.self {r : List Cn × Int} : OptU r r.1 r.2 := ⟨rfl, rfl⟩
section
variable {σ : St} {A B : Option Addr} {n c m d b : Nat} {xs ys : List Cn} {p q : Pt} {k : Cn} {v1 v2 : Value} {t : Tx} {id : Key}
instance rule_ripe1 {x : Cn} {hh : UInt32} {ty : TypeId} [o : Own σ b ty #[.int .u32 (hh.toNat : Int)]] : CallRule Try.prog 27 [.agg (cats [kc x.at_.tx, #[.int .u32 (x.at_.idx.toNat : Int)], #[.int .i64 x.out.val.toInt], kc x.out.lock, #[.int .u32 (x.h.toNat : Int)], #[.bool x.base]]), .pointer (some ⟨b, 0, none⟩)] σ (fun K _ => ∀ σ', Nx σ σ' .no → K (.bool (ripe x hh)) σ') := ⟨fun K E hK => by
  refine calls_enter Try.func27 rfl _ Try.ntmps27 rfl ?_
  (repeat (first | refine go ?_ | refine goR ?_ | refine goS (fun yc hyc => ?_) | refine goL (fun _ _ => inferInstance) ?_ | with_reducible intro _ | refine goO (by first | omega | (simp only [List.length_cons, List.length_nil]; omega)) ?_ | fail))
  exact backN (σ0 := σ) Try.results27 (fun σ' _ _ => hK σ' inferInstance)⟩
instance clos_ripe {hh : UInt32} : Clos1 Try.prog 27 28 #[.int .u32 (hh.toNat : Int)] cnE (fun x => ripe x hh) := ⟨fun σ b x o _ => inferInstance⟩
instance act_put : ActF Try.prog σ (.func (.func 30) (List.toArray [.pointer (some ⟨b, 0, none⟩)]) (List.toArray [])) b putC := ⟨fun xs k zs h => by rw [putC_len h]; exact Nat.le_refl _, fun s A0 A n c xs k _ ho hr => ValRule.bound (fst := [.pointer (some ⟨b, 0, none⟩)]) (cap := [])⟩
instance clos_true : Clos0 Try.prog 35 cnE (fun _ => true) := ⟨fun σ x _ => ⟨fun K E hK => by
  refine calls_enter Try.func35 rfl _ Try.ntmps35 rfl ?_
  (repeat (first | refine go ?_ | refine goR ?_ | refine goS (fun yc hyc => ?_) | refine goL (fun _ _ => inferInstance) ?_ | with_reducible intro _ | refine goO (by first | omega | (simp only [List.length_cons, List.length_nil]; omega)) ?_ | fail))
  exact backN (σ0 := σ) Try.results35 (fun σ' _ _ => hK σ' inferInstance)⟩⟩
instance rule_gone {b2 : Nat} [o2 : Own σ b2 70 #[.pointer (some ⟨b, 0, none⟩)]] [o : Own σ b 78 (cats [#[.slice A n c]])] [h : Row σ A n c 40 cnE xs] {o : Option (List Cn)} [q1 : Is (goneM xs k) o] :
    CallRule Try.prog 34 [.agg (cats [kc k.at_.tx, #[.int .u32 (k.at_.idx.toNat : Int)], #[.int .i64 k.out.val.toInt], kc k.out.lock, #[.int .u32 (k.h.toNat : Int)], #[.bool k.base]]), .pointer (some ⟨b2, 0, none⟩)] σ (fun K E => (n ≤ 100000000000) ∧ setS Try.prog σ A b .bool o K E) := ⟨fun K E hK => by
  obtain ⟨hn, hK⟩ := hK
  have hq := q1.eq; subst hq
  cases ht : takeM xs k.at_ (fun _ => true) with
  | none =>
    haveI : Is (takeM xs k.at_ (fun _ => true)) none := ⟨ht⟩
    have e : goneM xs k = none := by unfold goneM; rw [ht]; rfl
    rw [e] at hK
    refine calls_enter Try.func34 rfl _ Try.ntmps34 rfl ?_
    (repeat (first | refine go ?_ | refine goR ?_ | refine goS (fun yc hyc => ?_) | refine goL (fun _ _ => inferInstance) ?_ | with_reducible intro _ | refine goO (by first | omega | (simp only [List.length_cons, List.length_nil]; omega)) ?_ | fail))
    exact backN (σ0 := σ) Try.results34 (fun σ' _ _ => hK σ' inferInstance)
  | some r =>
    obtain ⟨kk, zs⟩ := r
    haveI : Is (takeM xs k.at_ (fun _ => true)) (some (kk, zs)) := ⟨ht⟩
    have e : goneM xs k = some zs := by unfold goneM; rw [ht]; rfl
    rw [e] at hK
    refine calls_enter Try.func34 rfl _ Try.ntmps34 rfl ?_
    (repeat (first | refine go ?_ | refine goR ?_ | refine goS (fun yc hyc => ?_) | refine goL (fun _ _ => inferInstance) ?_ | with_reducible intro _ | refine goO (by first | omega | (simp only [List.length_cons, List.length_nil]; omega)) ?_ | fail))
    exact resN Try.results34 (hK _ _ _ (Sx.nx inferInstance) (Gr.rn inferInstance) inferInstance inferInstance)⟩
instance act_gone {b2 : Nat} [o2 : Own σ b2 70 #[.pointer (some ⟨b, 0, none⟩)]] : ActF Try.prog σ (.func (.func 34) #[] (List.toArray [.pointer (some ⟨b2, 0, none⟩)])) b goneM := ⟨fun xs k zs h => by
    unfold goneM at h
    cases ht : takeM xs k.at_ (fun _ => true) with
    | none => rw [ht] at h; cases h
    | some r =>
      obtain ⟨kk, zs'⟩ := r
      rw [ht] at h; injection h with h; subst h
      have := takeM_len ht
      simp only; omega,
  fun s A0 A n c xs k hs ho hr => ValRule.closure (cap := [.pointer (some ⟨b2, 0, none⟩)])⟩
end
end Go.Proofs.Ytpnbfohdfffolaa
