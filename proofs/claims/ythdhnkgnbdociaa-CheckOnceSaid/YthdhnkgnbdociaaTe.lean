/- tx.Encode, by contract. No condition. (Printed by gen_te.py.) -/
import Derived.Test.YthdhnkgnbdociaaSb
import Derived.Test.YthdhnkgnbdociaaEc
set_option linter.all false
set_option maxHeartbeats 40000000
set_option synthInstance.maxHeartbeats 2000000
set_option synthInstance.maxSize 100000
namespace Go.Proofs.Ythdhnkgnbdociaa
open Go Go.RowKit
/-- what is written of each thing, by its place -/
def encL {α : Type} (e : Nat → α → Bs) : Nat → List α → Bs
  | _, [] => []
  | i, x :: l => e i x ++ encL e (i + 1) l
theorem encL_snoc {α : Type} (e : Nat → α → Bs) : ∀ (l : List α) (i : Nat) (x : α), encL e i (l ++ [x]) = encL e i l ++ e (i + l.length) x
  | [], i, x => by simp [encL]
  | y :: l, i, x => by
    rw [List.cons_append, encL, encL, encL_snoc e l (i + 1) x, List.append_assoc]
    congr 3
    simp; omega
theorem encL_flat {α : Type} (e : Nat → α → Bs) (g : α → Bs) (h : ∀ i x, e i x = g x) : ∀ (l : List α) (i : Nat), encL e i l = l.flatMap g
  | [], _ => rfl
  | x :: l, i => by rw [encL, encL_flat e g h l (i + 1), h]; rfl
theorem encL_len {α : Type} (e : Nat → α → Bs) (m : Nat) (h : ∀ i x, (e i x).length ≤ m) : ∀ (l : List α) (i : Nat), (encL e i l).length ≤ m * l.length
  | [], _ => Nat.zero_le _
  | x :: l, i => by
    have := encL_len e m h l (i + 1)
    have := h i x
    rw [encL, List.length_append, List.length_cons, Nat.mul_add]; omega
def encPt (p : Pt) : Bs := p.tx.toList ++ leB 4 p.idx.toNat
def encOt (x : Ot) : Bs := leB 8 x.val.toUInt64.toNat ++ x.lock.toList
def encM (t : Tx) : Bs := leB 4 t.exp.toNat ++ leB 1 t.ins.n ++ t.ins.l.flatMap encPt ++ leB 1 t.outs.n ++ t.outs.l.flatMap encOt ++ leB 1 t.nulls.n ++ (if t.nulls.n = 0 then [] else t.anchor.toList) ++ t.nulls.l.flatMap (fun k => k.toList) ++ leB 1 t.notes.n ++ t.notes.l.flatMap (fun k => k.toList) ++ leB 8 t.bal.toUInt64.toNat
/-! the greatest of numbers -/
def maxL : List Nat → Nat
  | [] => 0
  | a :: l => l.foldl max a
theorem run_max2_nats {P : Program} {w : World} (k : IntKind) : ∀ (l : List Nat) (a : Nat), ((l.map fun (n : Nat) => Value.int k (n : Int)).foldlM Builtin.max2 (.int k (a : Int))).run P w = .ok (.int k ((l.foldl max a : Nat) : Int)) w
  | [], a => by simp
  | n :: l, a => by
    have h1 : (Builtin.max2 (.int k (a : Int)) (.int k (n : Int))).run P w = .ok (.int k ((max a n : Nat) : Int)) w := by
      simp only [Builtin.max2]
      by_cases h : a < n
      · have : ((n : Int) > (a : Int)) := by omega
        simp [this, Nat.max_eq_right (Nat.le_of_lt h)]
      · have : ¬ ((n : Int) > (a : Int)) := by omega
        simp [this, Nat.max_eq_left (Nat.le_of_not_lt h)]
    simp only [List.map_cons, List.foldlM_cons, Sem.run_bind, h1, Result.andThen_ok, List.foldl_cons]
    exact run_max2_nats k l (max a n)
instance StepV.max_nats {P : Program} {σ : St} {f : Fr} {ty : TypeId} {xs : List Operand} {ts : Array TypeId} {vs : List Value} {k : IntKind} {ns : List Nat} [e : EvL f xs vs] [h : NatsV vs k ns] : StepV P (.call { callee := .builtin .max, args := xs.toArray, argTypes := ts }) ty f σ (.int k ((maxL ns : Nat) : Int)) := ⟨by
  have h1 := h.eq
  have key : (Builtin.max_ ts ty vs.toArray).run P σ.w = .ok (.int k ((maxL ns : Nat) : Int)) σ.w := by
    unfold Builtin.max_
    have hne := h.ne
    match ns, h1, hne with
    | [], _, hne => exact absurd rfl hne
    | n :: l, h1, _ => subst h1; exact run_max2_nats k l n
  simp [execOp, resolve, e.eq, invoke, builtin, key]⟩
theorem encPt_len (p : Pt) : (encPt p).length = 36 := by simp [encPt, leB_len]
theorem encOt_len (p : Ot) : (encOt p).length = 40 := by simp [encOt, leB_len]
theorem key_len (k : Key) : k.toList.length = 32 := by simp
/-- the error of a transaction's bytes -/
def encE (t : Tx) : Int := if 40 < maxL [t.ins.n, t.outs.n, t.nulls.n, t.notes.n] then 51 else if t.nulls.n = 0 ∧ t.anchor ≠ key0 then 1 else 0
def encS (t : Tx) : Bs := if encE t = 0 then encM t else []
theorem toU64 (x : Int64) : IntKind.u64.wrap x.toInt = (x.toUInt64.toNat : Int) := by
  rw [IntKind.wrap_u64]
  have h1 : x.toInt = (x.toBitVec).toInt := rfl
  have h2 : (x.toUInt64.toNat : Int) = ((x.toBitVec).toNat : Int) := rfl
  rw [h1, h2, BitVec.toInt_eq_toNat_bmod]
  have := x.toBitVec.isLt
  rw [show (2 ^ 64 : Nat) = 18446744073709551616 from rfl] at *
  simp only [Int.bmod]
  split <;> omega
instance Fits.u32u64 {x : UInt32} : Fits .u64 (x.toNat : Int) := Fits.u64 (by omega) (by have := x.toNat_lt; omega)
section
variable {P : Program} {f : Fr} {σ : St} {ty : TypeId}
instance (priority := 500) StepV.conv_i64u64 {src dst : TypeId} {d : TypeDesc} {a : Int} {v : Int64} {x : Operand} [h : Ev f x (.int .i64 a)] [g : I64 a v] [us : U P src d] [ud : U P dst (.int .u64)] : StepV P (.convert src dst x) ty f σ (.int .u64 (v.toUInt64.toNat : Int)) := ⟨by
  have e := g.eq; subst e
  simp [execOp, h.eq, conv_run us ud, toU64]⟩
end
section
variable {σ : St} {b b5 b6 b1 n c : Nat} {A : Option Addr} {l : Bs}
instance rule_Enc1 [o : Own σ b 66 (cats [#[.pointer (some ⟨b, 0, none⟩)], #[.slice A n c]])] [r : Row σ A n c 5 u8E l] {k : Key} : CallRule Try.prog 31 [.agg (kc k), .pointer (some ⟨b, 0, none⟩)] σ (fun K _ => (n + 32 ≤ 140737488355328) ∧ ∀ σ' A' c', Nx σ σ' (.un (.one b 66) (.row A 5)) → RowNew σ A A' → Own σ' b 66 (cats [#[.pointer (some ⟨b, 0, none⟩)], #[.slice A' (n + 32) c']]) → Row σ' A' (n + 32) c' 5 u8E (l ++ (k.toList)) → K (.tuple #[]) σ') := ⟨fun K E hK => by
  obtain ⟨hn, hK⟩ := hK
  refine calls_enter Try.func31 rfl _ Try.ntmps31 rfl ?_
  (repeat (first | refine go ?_ | refine goR ?_ | refine goS (fun yc hyc => ?_) | refine goL (fun _ _ => inferInstance) ?_ | with_reducible intro _ | refine goO (by first | omega | (simp only [List.length_cons, List.length_nil]; omega)) ?_ | fail))
  exact resN Try.results31 (hK _ _ _ (Sx.nx inferInstance) (Gr.rn inferInstance) inferInstance inferInstance)⟩
instance rule_Enc2 [o : Own σ b 66 (cats [#[.pointer (some ⟨b, 0, none⟩)], #[.slice A n c]])] [r : Row σ A n c 5 u8E l] [o5 : Own σ b5 72 #[.func (.func 31) #[] #[.pointer (some ⟨b, 0, none⟩)]]] {x : Pt} : CallRule Try.prog 36 [.agg (cats [kc x.tx, #[.int .u32 (x.idx.toNat : Int)]]), .pointer (some ⟨b5, 0, none⟩), .pointer (some ⟨b, 0, none⟩)] σ (fun K _ => (n + 36 ≤ 140737488355328) ∧ ∀ σ' A' c', Nx σ σ' (.un (.one b 66) (.row A 5)) → RowNew σ A A' → Own σ' b 66 (cats [#[.pointer (some ⟨b, 0, none⟩)], #[.slice A' (n + 36) c']]) → Row σ' A' (n + 36) c' 5 u8E (l ++ (encPt x)) → K (.tuple #[]) σ') := ⟨fun K E hK => by
  obtain ⟨hn, hK⟩ := hK
  simp only [encPt, encOt, ← List.append_assoc] at hK
  refine calls_enter Try.func36 rfl _ Try.ntmps36 rfl ?_
  (repeat (first | refine go ?_ | refine goR ?_ | refine goS (fun yc hyc => ?_) | refine goL (fun _ _ => inferInstance) ?_ | with_reducible intro _ | refine goO (by first | omega | (simp only [List.length_cons, List.length_nil]; omega)) ?_ | fail))
  exact resN Try.results36 (hK _ _ _ (Sx.nx inferInstance) (Gr.rn inferInstance) inferInstance inferInstance)⟩
instance rule_Enc3 [o : Own σ b 66 (cats [#[.pointer (some ⟨b, 0, none⟩)], #[.slice A n c]])] [r : Row σ A n c 5 u8E l] [o5 : Own σ b5 72 #[.func (.func 31) #[] #[.pointer (some ⟨b, 0, none⟩)]]] {x : Ot} : CallRule Try.prog 38 [.agg (cats [#[.int .i64 x.val.toInt], kc x.lock]), .pointer (some ⟨b, 0, none⟩), .pointer (some ⟨b5, 0, none⟩)] σ (fun K _ => (n + 40 ≤ 140737488355328) ∧ ∀ σ' A' c', Nx σ σ' (.un (.one b 66) (.row A 5)) → RowNew σ A A' → Own σ' b 66 (cats [#[.pointer (some ⟨b, 0, none⟩)], #[.slice A' (n + 40) c']]) → Row σ' A' (n + 40) c' 5 u8E (l ++ (encOt x)) → K (.tuple #[]) σ') := ⟨fun K E hK => by
  obtain ⟨hn, hK⟩ := hK
  simp only [encPt, encOt, ← List.append_assoc] at hK
  refine calls_enter Try.func38 rfl _ Try.ntmps38 rfl ?_
  (repeat (first | refine go ?_ | refine goR ?_ | refine goS (fun yc hyc => ?_) | refine goL (fun _ _ => inferInstance) ?_ | with_reducible intro _ | refine goO (by first | omega | (simp only [List.length_cons, List.length_nil]; omega)) ?_ | fail))
  exact resN Try.results38 (hK _ _ _ (Sx.nx inferInstance) (Gr.rn inferInstance) inferInstance inferInstance)⟩
def enc4 (t : Tx) (fs : Bool) (k : Key) : Bs := if fs then t.anchor.toList ++ k.toList else k.toList
def len4 (fs : Bool) : Nat := if fs then 64 else 32
instance rule_Enc4 [o : Own σ b 66 (cats [#[.pointer (some ⟨b, 0, none⟩)], #[.slice A n c]])] [r : Row σ A n c 5 u8E l] [o5 : Own σ b5 72 #[.func (.func 31) #[] #[.pointer (some ⟨b, 0, none⟩)]]] {fs : Bool} {t : Tx} [o6 : Own σ b6 4 #[.bool fs]] [o1 : Own σ b1 29 (cats [#[.int .u32 (t.exp.toNat : Int)], #[.slice t.ins.A t.ins.n t.ins.c], #[.slice t.outs.A t.outs.n t.outs.c], kc t.anchor, #[.slice t.nulls.A t.nulls.n t.nulls.c], #[.slice t.notes.A t.notes.n t.notes.c], #[.int .i64 t.bal.toInt]])] {x : Key} : CallRule Try.prog 40 [.agg (kc x), .pointer (some ⟨b6, 0, none⟩), .pointer (some ⟨b5, 0, none⟩), .pointer (some ⟨b1, 0, none⟩)] σ (fun K _ => (n + len4 fs ≤ 140737488355328) ∧ ∀ σ' A' c', Nx σ σ' (.un (.un (.one b 66) (.row A 5)) (.one b6 4)) → RowNew σ A A' → Own σ' b 66 (cats [#[.pointer (some ⟨b, 0, none⟩)], #[.slice A' (n + len4 fs) c']]) → Row σ' A' (n + len4 fs) c' 5 u8E (l ++ (enc4 t fs x)) → Own σ' b6 4 #[.bool false] → K (.tuple #[]) σ') := ⟨fun K E hK => by
  obtain ⟨hn, hK⟩ := hK
  cases fs with
  | true =>
    have e : enc4 t true x = t.anchor.toList ++ x.toList := rfl
    have e2 : len4 true = 64 := rfl
    simp only [e, e2, ← List.append_assoc] at hK hn
    refine calls_enter Try.func40 rfl _ Try.ntmps40 rfl ?_
    (repeat (first | refine go ?_ | refine goR ?_ | refine goS (fun yc hyc => ?_) | refine goL (fun _ _ => inferInstance) ?_ | with_reducible intro _ | refine goO (by first | omega | (simp only [List.length_cons, List.length_nil]; omega)) ?_ | fail))
    exact resN Try.results40 (hK _ _ _ (Sx.nx inferInstance) (Gr.rn inferInstance) inferInstance inferInstance inferInstance)
  | false =>
    have e : enc4 t false x = x.toList := rfl
    have e2 : len4 false = 32 := rfl
    simp only [e, e2] at hK hn
    refine calls_enter Try.func40 rfl _ Try.ntmps40 rfl ?_
    (repeat (first | refine go ?_ | refine goR ?_ | refine goS (fun yc hyc => ?_) | refine goL (fun _ _ => inferInstance) ?_ | with_reducible intro _ | refine goO (by first | omega | (simp only [List.length_cons, List.length_nil]; omega)) ?_ | fail))
    exact resN Try.results40 (hK _ _ _ (Sx.nx inferInstance) (Gr.rn inferInstance) inferInstance inferInstance inferInstance)⟩
/-- a function value that writes each thing: what it writes, by the thing's place; I what it keeps -/
class WrF (P : Program) (σ0 : St) (fv : Value) (b : outParam Nat) (A0 : outParam (Option Addr)) {α : outParam Type} (E : outParam (Elem α)) (X : outParam Xs) (I : outParam (Nat → St → Prop)) (enc : outParam (Nat → α → Bs)) (len : outParam (Nat → Nat)) : Prop where
  rule : ∀ (s : St) (A : Option Addr) (n c : Nat) (l : Bs) (i : Nat) (x : α), Nx σ0 s (.un (.un (.one b 66) (.row A0 5)) X) → RowNew σ0 A0 A → Own s b 66 (cats [#[.pointer (some ⟨b, 0, none⟩)], #[.slice A n c]]) → Row s A n c 5 u8E l → I i s → ValRule P fv [E.val x] s (fun K _ => (n + len i ≤ 140737488355328) ∧ ∀ σ' A' c', Nx s σ' (.un (.un (.one b 66) (.row A 5)) X) → RowNew s A A' → Own σ' b 66 (cats [#[.pointer (some ⟨b, 0, none⟩)], #[.slice A' (n + len i) c']]) → Row σ' A' (n + len i) c' 5 u8E (l ++ enc i x) → I (i + 1) σ' → K (.tuple #[]) σ')
  nx : ∀ (s s' : St) (A : Option Addr) (i : Nat), NxP s s' (.un (.one b 66) (.row A 5)) → I i s → I i s'
  init : I 0 σ0
  small : ∀ i, len i ≤ 64
  tyd : ∀ (s : St) (i : Nat), I i s → Tyd s X
instance wrF_1 [o : Own σ b 66 (cats [#[.pointer (some ⟨b, 0, none⟩)], #[.slice A n c]])] [r : Row σ A n c 5 u8E l]  : WrF Try.prog σ (.func (.func 31) #[] #[.pointer (some ⟨b, 0, none⟩)]) b A keyE (.no) (fun _ _ => True) (fun _ k => k.toList) (fun _ => 32) where
  rule := fun s A1 n1 c1 l1 i x hs _ h1 h2 hI => by
    haveI := hs; haveI := h1; haveI := h2
    exact ⟨fun K E hK => (inferInstance : ValRule Try.prog (.func (.func 31) #[] #[.pointer (some ⟨b, 0, none⟩)]) [.agg (kc x)] s _).sound K E ⟨hK.1, fun σ' A' c' k1 k2 k3 k4 => by
      haveI := k1
      exact hK.2 σ' A' c' (Sx.nx inferInstance) k2 k3 k4 trivial⟩⟩
  nx := fun s s2 A1 i hn hI => trivial
  init := trivial
  small := fun i => by omega
  tyd := fun s i hI => inferInstance
instance wrF_2 [o : Own σ b 66 (cats [#[.pointer (some ⟨b, 0, none⟩)], #[.slice A n c]])] [r : Row σ A n c 5 u8E l] [o5 : Own σ b5 72 #[.func (.func 31) #[] #[.pointer (some ⟨b, 0, none⟩)]]] : WrF Try.prog σ (.func (.func 36) #[] #[.pointer (some ⟨b5, 0, none⟩), .pointer (some ⟨b, 0, none⟩)]) b A ptE (.no) (fun _ _ => True) (fun _ k => encPt k) (fun _ => 36) where
  rule := fun s A1 n1 c1 l1 i x hs _ h1 h2 hI => by
    haveI := hs; haveI := h1; haveI := h2
    exact ⟨fun K E hK => (inferInstance : ValRule Try.prog (.func (.func 36) #[] #[.pointer (some ⟨b5, 0, none⟩), .pointer (some ⟨b, 0, none⟩)]) [.agg (cats [kc x.tx, #[.int .u32 (x.idx.toNat : Int)]])] s _).sound K E ⟨hK.1, fun σ' A' c' k1 k2 k3 k4 => by
      haveI := k1
      exact hK.2 σ' A' c' (Sx.nx inferInstance) k2 k3 k4 trivial⟩⟩
  nx := fun s s2 A1 i hn hI => trivial
  init := trivial
  small := fun i => by omega
  tyd := fun s i hI => inferInstance
instance wrF_3 [o : Own σ b 66 (cats [#[.pointer (some ⟨b, 0, none⟩)], #[.slice A n c]])] [r : Row σ A n c 5 u8E l] [o5 : Own σ b5 72 #[.func (.func 31) #[] #[.pointer (some ⟨b, 0, none⟩)]]] : WrF Try.prog σ (.func (.func 38) #[] #[.pointer (some ⟨b, 0, none⟩), .pointer (some ⟨b5, 0, none⟩)]) b A otE (.no) (fun _ _ => True) (fun _ k => encOt k) (fun _ => 40) where
  rule := fun s A1 n1 c1 l1 i x hs _ h1 h2 hI => by
    haveI := hs; haveI := h1; haveI := h2
    exact ⟨fun K E hK => (inferInstance : ValRule Try.prog (.func (.func 38) #[] #[.pointer (some ⟨b, 0, none⟩), .pointer (some ⟨b5, 0, none⟩)]) [.agg (cats [#[.int .i64 x.val.toInt], kc x.lock])] s _).sound K E ⟨hK.1, fun σ' A' c' k1 k2 k3 k4 => by
      haveI := k1
      exact hK.2 σ' A' c' (Sx.nx inferInstance) k2 k3 k4 trivial⟩⟩
  nx := fun s s2 A1 i hn hI => trivial
  init := trivial
  small := fun i => by omega
  tyd := fun s i hI => inferInstance
instance wrF_4 [o : Own σ b 66 (cats [#[.pointer (some ⟨b, 0, none⟩)], #[.slice A n c]])] [r : Row σ A n c 5 u8E l] [o5 : Own σ b5 72 #[.func (.func 31) #[] #[.pointer (some ⟨b, 0, none⟩)]]] {t : Tx} [o6 : Own σ b6 4 #[.bool true]] [o1 : Own σ b1 29 (cats [#[.int .u32 (t.exp.toNat : Int)], #[.slice t.ins.A t.ins.n t.ins.c], #[.slice t.outs.A t.outs.n t.outs.c], kc t.anchor, #[.slice t.nulls.A t.nulls.n t.nulls.c], #[.slice t.notes.A t.notes.n t.notes.c], #[.int .i64 t.bal.toInt]])] : WrF Try.prog σ (.func (.func 40) #[] #[.pointer (some ⟨b6, 0, none⟩), .pointer (some ⟨b5, 0, none⟩), .pointer (some ⟨b1, 0, none⟩)]) b A keyE (.one b6 4) (fun i s => Own s b6 4 #[.bool (decide (i = 0))]) (fun i k => enc4 t (decide (i = 0)) k) (fun i => len4 (decide (i = 0))) where
  rule := fun s A1 n1 c1 l1 i x hs _ h1 h2 hI => by
    haveI := hs; haveI := h1; haveI := h2
    haveI : Own s b6 4 #[.bool (decide (i = 0))] := hI
    exact ⟨fun K E hK => (inferInstance : ValRule Try.prog (.func (.func 40) #[] #[.pointer (some ⟨b6, 0, none⟩), .pointer (some ⟨b5, 0, none⟩), .pointer (some ⟨b1, 0, none⟩)]) [.agg (kc x)] s _).sound K E ⟨hK.1, fun σ' A' c' k1 k2 k3 k4 k5 => by
      haveI := k1
      exact hK.2 σ' A' c' (Sx.nx inferInstance) k2 k3 k4 (by rw [show decide (i + 1 = 0) = false from by simp]; exact k5)⟩⟩
  nx := fun s s2 A1 i hn hI => (by haveI : Own s b6 4 #[.bool (decide (i = 0))] := hI; haveI : Nx s s2 _ := ⟨hn⟩; exact (inferInstance : Own s2 b6 4 #[.bool (decide (i = 0))]))
  init := o6
  small := fun i => by simp only [len4]; split <;> omega
  tyd := fun s i hI => (by haveI : Own s b6 4 #[.bool (decide (i = 0))] := hI; infer_instance)
instance rule_written_pt {B : Option Addr} {m d : Nat} {xs : List Pt} {fv : Value} {X : Xs} {I : Nat → St → Prop} {enc : Nat → Pt → Bs} {len : Nat → Nat} [o : Own σ b 66 (cats [#[.pointer (some ⟨b, 0, none⟩)], #[.slice A n c]])] [r : Row σ A n c 5 u8E l] [h : SL σ B m d ptE xs] [wf : WrF Try.prog σ fv b A ptE X I enc len] :
    CallRule Try.prog 35 [.pointer (some ⟨b, 0, none⟩), .slice B m d, fv] σ (fun K _ => (m < 253 ∧ n ≤ 1000000) ∧ ∀ σ' A' n' c', Nx σ σ' (.un (.un (.one b 66) (.row A 5)) X) → RowNew σ A A' → Own σ' b 66 (cats [#[.pointer (some ⟨b, 0, none⟩)], #[.slice A' n' c']]) → Row σ' A' n' c' 5 u8E (l ++ (leB 1 m ++ encL enc 0 xs)) → n' ≤ n + 20000 → n ≤ n' → K (.tuple #[]) σ') := ⟨fun K E hK => by
  obtain ⟨⟨hm, hn⟩, hK⟩ := hK
  have hl := h.len
  haveI := wf.tyd σ 0 wf.init
  haveI : Fits .u64 (m : Int) := Fits.u64 (by omega) (by omega)
  refine calls_enter Try.func35 rfl _ Try.ntmps35 rfl ?_
  (repeat (first | refine go ?_ | refine goR ?_ | refine goS (fun yc hyc => ?_) | refine goL (fun _ _ => inferInstance) ?_ | with_reducible intro _ | refine goO (by first | omega | (simp only [List.length_cons, List.length_nil]; omega)) ?_ | fail))
  rename Option Addr => A1
  rename St => s1
  have hI1 : I 0 s1 := wf.nx σ s1 A 0 (Sx.nx (inferInstance : Sx σ (.un (.one b 66) (.row A 5)) s1)).p wf.init
  haveI := wf.tyd s1 0 hI1
  refine WC.loopW 16711808 (.un (.un (.one b 66) (.row A1 5)) X) (fun (i : Nat) f s => At f 16 (.int .i64 (i : Int)) ∧ i ≤ m ∧ ∃ A2 n2 c2, Own s b 66 (cats [#[.pointer (some ⟨b, 0, none⟩)], #[.slice A2 n2 c2]]) ∧ Row s A2 n2 c2 5 u8E (l ++ (leB 1 m ++ encL enc 0 (xs.take i))) ∧ RowNew s1 A1 A2 ∧ I i s ∧ n2 ≤ n + 1 + 64 * i ∧ n ≤ n2) (fun i => m - i) 0
    ⟨At.to (.int .i64 0) rfl, Nat.zero_le _, A1, _, _, inferInstance, by rw [List.take_zero, encL, List.append_nil]; infer_instance, Gr.rn inferInstance, hI1, by omega, by omega⟩ ?_
  rintro i f s ha hs ⟨a16, hi, A2, n2, c2, ho, hr, hrn, hI, hn2, hn3⟩
  by_cases hlt : i < m
  · haveI : BV (decide ((i : Int) < (m : Int))) true := ⟨by simpa using hlt⟩
    haveI : IdxLt i m := ⟨hlt⟩
    haveI : Fits .i64 ((i : Int) + 1) := Fits.i64 (by omega) (by omega)
    have hst : l ++ (leB 1 m ++ encL enc 0 (xs.take (i + 1))) = l ++ (leB 1 m ++ encL enc 0 (xs.take i)) ++ enc i xs[i]! := by
      have e : 0 + (xs.take i).length = i := by simp; omega
      rw [take_snoc (by omega), encL_snoc, e]; simp only [List.append_assoc]
    have hsm := wf.small i
    haveI hact : ∀ (s2 : St) [h0 : Sx s .no s2] [h1 : Own s2 b 66 (cats [#[.pointer (some ⟨b, 0, none⟩)], #[.slice A2 n2 c2]])] [h2 : Row s2 A2 n2 c2 5 u8E (l ++ (leB 1 m ++ encL enc 0 (xs.take i)))], ValRule Try.prog fv [.agg (cats [kc xs[i]!.tx, #[.int .u32 (xs[i]!.idx.toNat : Int)]])] s2 (fun K _ => (n2 + len i ≤ 140737488355328) ∧ ∀ σ' A' c', Nx s2 σ' (.un (.un (.one b 66) (.row A2 5)) X) → RowNew s2 A2 A' → Own σ' b 66 (cats [#[.pointer (some ⟨b, 0, none⟩)], #[.slice A' (n2 + len i) c']]) → Row σ' A' (n2 + len i) c' 5 u8E (l ++ (leB 1 m ++ encL enc 0 (xs.take i)) ++ enc i xs[i]!) → I (i + 1) σ' → K (.tuple #[]) σ') := fun s2 h0 h1 h2 => by
      haveI := Sx.nx h0
      exact wf.rule s2 A2 n2 c2 _ i xs[i]! (Sx.nx inferInstance) (Gr.rn inferInstance) h1 h2 (wf.nx s s2 A2 i (Sx.nx (inferInstance : Sx s (.un (.one b 66) (.row A2 5)) s2)).p hI)
    (repeat (first | refine go ?_ | refine goR ?_ | refine goS (fun yc hyc => ?_) | refine goL (fun _ _ => inferInstance) ?_ | with_reducible intro _ | refine goO (by first | omega | (simp only [List.length_cons, List.length_nil]; omega)) ?_ | fail))
    refine loop_w (i + 1) ⟨At.to (.int .i64 ((i : Int) + 1)) (by simp), hlt, _, _, _, inferInstance, by rw [hst]; infer_instance, Gr.rn inferInstance, by assumption, by omega, by omega⟩ (by omega)
  · haveI : BV (decide ((i : Int) < (m : Int))) false := ⟨by simpa using hlt⟩
    rw [take_all (by omega)] at hr
    (repeat (first | refine go ?_ | refine goR ?_ | refine goS (fun yc hyc => ?_) | refine goL (fun _ _ => inferInstance) ?_ | with_reducible intro _ | refine goO (by first | omega | (simp only [List.length_cons, List.length_nil]; omega)) ?_ | fail))
    exact resN Try.results35 (hK _ _ _ _ (Sx.nx inferInstance) (Gr.rn inferInstance) inferInstance hr (by omega) hn3)⟩
instance rule_written_ot {B : Option Addr} {m d : Nat} {xs : List Ot} {fv : Value} {X : Xs} {I : Nat → St → Prop} {enc : Nat → Ot → Bs} {len : Nat → Nat} [o : Own σ b 66 (cats [#[.pointer (some ⟨b, 0, none⟩)], #[.slice A n c]])] [r : Row σ A n c 5 u8E l] [h : SL σ B m d otE xs] [wf : WrF Try.prog σ fv b A otE X I enc len] :
    CallRule Try.prog 37 [.pointer (some ⟨b, 0, none⟩), .slice B m d, fv] σ (fun K _ => (m < 253 ∧ n ≤ 1000000) ∧ ∀ σ' A' n' c', Nx σ σ' (.un (.un (.one b 66) (.row A 5)) X) → RowNew σ A A' → Own σ' b 66 (cats [#[.pointer (some ⟨b, 0, none⟩)], #[.slice A' n' c']]) → Row σ' A' n' c' 5 u8E (l ++ (leB 1 m ++ encL enc 0 xs)) → n' ≤ n + 20000 → n ≤ n' → K (.tuple #[]) σ') := ⟨fun K E hK => by
  obtain ⟨⟨hm, hn⟩, hK⟩ := hK
  have hl := h.len
  haveI := wf.tyd σ 0 wf.init
  haveI : Fits .u64 (m : Int) := Fits.u64 (by omega) (by omega)
  refine calls_enter Try.func37 rfl _ Try.ntmps37 rfl ?_
  (repeat (first | refine go ?_ | refine goR ?_ | refine goS (fun yc hyc => ?_) | refine goL (fun _ _ => inferInstance) ?_ | with_reducible intro _ | refine goO (by first | omega | (simp only [List.length_cons, List.length_nil]; omega)) ?_ | fail))
  rename Option Addr => A1
  rename St => s1
  have hI1 : I 0 s1 := wf.nx σ s1 A 0 (Sx.nx (inferInstance : Sx σ (.un (.one b 66) (.row A 5)) s1)).p wf.init
  haveI := wf.tyd s1 0 hI1
  refine WC.loopW 16711808 (.un (.un (.one b 66) (.row A1 5)) X) (fun (i : Nat) f s => At f 16 (.int .i64 (i : Int)) ∧ i ≤ m ∧ ∃ A2 n2 c2, Own s b 66 (cats [#[.pointer (some ⟨b, 0, none⟩)], #[.slice A2 n2 c2]]) ∧ Row s A2 n2 c2 5 u8E (l ++ (leB 1 m ++ encL enc 0 (xs.take i))) ∧ RowNew s1 A1 A2 ∧ I i s ∧ n2 ≤ n + 1 + 64 * i ∧ n ≤ n2) (fun i => m - i) 0
    ⟨At.to (.int .i64 0) rfl, Nat.zero_le _, A1, _, _, inferInstance, by rw [List.take_zero, encL, List.append_nil]; infer_instance, Gr.rn inferInstance, hI1, by omega, by omega⟩ ?_
  rintro i f s ha hs ⟨a16, hi, A2, n2, c2, ho, hr, hrn, hI, hn2, hn3⟩
  by_cases hlt : i < m
  · haveI : BV (decide ((i : Int) < (m : Int))) true := ⟨by simpa using hlt⟩
    haveI : IdxLt i m := ⟨hlt⟩
    haveI : Fits .i64 ((i : Int) + 1) := Fits.i64 (by omega) (by omega)
    have hst : l ++ (leB 1 m ++ encL enc 0 (xs.take (i + 1))) = l ++ (leB 1 m ++ encL enc 0 (xs.take i)) ++ enc i xs[i]! := by
      have e : 0 + (xs.take i).length = i := by simp; omega
      rw [take_snoc (by omega), encL_snoc, e]; simp only [List.append_assoc]
    have hsm := wf.small i
    haveI hact : ∀ (s2 : St) [h0 : Sx s .no s2] [h1 : Own s2 b 66 (cats [#[.pointer (some ⟨b, 0, none⟩)], #[.slice A2 n2 c2]])] [h2 : Row s2 A2 n2 c2 5 u8E (l ++ (leB 1 m ++ encL enc 0 (xs.take i)))], ValRule Try.prog fv [.agg (cats [#[.int .i64 xs[i]!.val.toInt], kc xs[i]!.lock])] s2 (fun K _ => (n2 + len i ≤ 140737488355328) ∧ ∀ σ' A' c', Nx s2 σ' (.un (.un (.one b 66) (.row A2 5)) X) → RowNew s2 A2 A' → Own σ' b 66 (cats [#[.pointer (some ⟨b, 0, none⟩)], #[.slice A' (n2 + len i) c']]) → Row σ' A' (n2 + len i) c' 5 u8E (l ++ (leB 1 m ++ encL enc 0 (xs.take i)) ++ enc i xs[i]!) → I (i + 1) σ' → K (.tuple #[]) σ') := fun s2 h0 h1 h2 => by
      haveI := Sx.nx h0
      exact wf.rule s2 A2 n2 c2 _ i xs[i]! (Sx.nx inferInstance) (Gr.rn inferInstance) h1 h2 (wf.nx s s2 A2 i (Sx.nx (inferInstance : Sx s (.un (.one b 66) (.row A2 5)) s2)).p hI)
    (repeat (first | refine go ?_ | refine goR ?_ | refine goS (fun yc hyc => ?_) | refine goL (fun _ _ => inferInstance) ?_ | with_reducible intro _ | refine goO (by first | omega | (simp only [List.length_cons, List.length_nil]; omega)) ?_ | fail))
    refine loop_w (i + 1) ⟨At.to (.int .i64 ((i : Int) + 1)) (by simp), hlt, _, _, _, inferInstance, by rw [hst]; infer_instance, Gr.rn inferInstance, by assumption, by omega, by omega⟩ (by omega)
  · haveI : BV (decide ((i : Int) < (m : Int))) false := ⟨by simpa using hlt⟩
    rw [take_all (by omega)] at hr
    (repeat (first | refine go ?_ | refine goR ?_ | refine goS (fun yc hyc => ?_) | refine goL (fun _ _ => inferInstance) ?_ | with_reducible intro _ | refine goO (by first | omega | (simp only [List.length_cons, List.length_nil]; omega)) ?_ | fail))
    exact resN Try.results37 (hK _ _ _ _ (Sx.nx inferInstance) (Gr.rn inferInstance) inferInstance hr (by omega) hn3)⟩
instance rule_written_key {B : Option Addr} {m d : Nat} {xs : List Key} {fv : Value} {X : Xs} {I : Nat → St → Prop} {enc : Nat → Key → Bs} {len : Nat → Nat} [o : Own σ b 66 (cats [#[.pointer (some ⟨b, 0, none⟩)], #[.slice A n c]])] [r : Row σ A n c 5 u8E l] [h : SL σ B m d keyE xs] [wf : WrF Try.prog σ fv b A keyE X I enc len] :
    CallRule Try.prog 39 [.pointer (some ⟨b, 0, none⟩), .slice B m d, fv] σ (fun K _ => (m < 253 ∧ n ≤ 1000000) ∧ ∀ σ' A' n' c', Nx σ σ' (.un (.un (.one b 66) (.row A 5)) X) → RowNew σ A A' → Own σ' b 66 (cats [#[.pointer (some ⟨b, 0, none⟩)], #[.slice A' n' c']]) → Row σ' A' n' c' 5 u8E (l ++ (leB 1 m ++ encL enc 0 xs)) → n' ≤ n + 20000 → n ≤ n' → K (.tuple #[]) σ') := ⟨fun K E hK => by
  obtain ⟨⟨hm, hn⟩, hK⟩ := hK
  have hl := h.len
  haveI := wf.tyd σ 0 wf.init
  haveI : Fits .u64 (m : Int) := Fits.u64 (by omega) (by omega)
  refine calls_enter Try.func39 rfl _ Try.ntmps39 rfl ?_
  (repeat (first | refine go ?_ | refine goR ?_ | refine goS (fun yc hyc => ?_) | refine goL (fun _ _ => inferInstance) ?_ | with_reducible intro _ | refine goO (by first | omega | (simp only [List.length_cons, List.length_nil]; omega)) ?_ | fail))
  rename Option Addr => A1
  rename St => s1
  have hI1 : I 0 s1 := wf.nx σ s1 A 0 (Sx.nx (inferInstance : Sx σ (.un (.one b 66) (.row A 5)) s1)).p wf.init
  haveI := wf.tyd s1 0 hI1
  refine WC.loopW 16711808 (.un (.un (.one b 66) (.row A1 5)) X) (fun (i : Nat) f s => At f 16 (.int .i64 (i : Int)) ∧ i ≤ m ∧ ∃ A2 n2 c2, Own s b 66 (cats [#[.pointer (some ⟨b, 0, none⟩)], #[.slice A2 n2 c2]]) ∧ Row s A2 n2 c2 5 u8E (l ++ (leB 1 m ++ encL enc 0 (xs.take i))) ∧ RowNew s1 A1 A2 ∧ I i s ∧ n2 ≤ n + 1 + 64 * i ∧ n ≤ n2) (fun i => m - i) 0
    ⟨At.to (.int .i64 0) rfl, Nat.zero_le _, A1, _, _, inferInstance, by rw [List.take_zero, encL, List.append_nil]; infer_instance, Gr.rn inferInstance, hI1, by omega, by omega⟩ ?_
  rintro i f s ha hs ⟨a16, hi, A2, n2, c2, ho, hr, hrn, hI, hn2, hn3⟩
  by_cases hlt : i < m
  · haveI : BV (decide ((i : Int) < (m : Int))) true := ⟨by simpa using hlt⟩
    haveI : IdxLt i m := ⟨hlt⟩
    haveI : Fits .i64 ((i : Int) + 1) := Fits.i64 (by omega) (by omega)
    have hst : l ++ (leB 1 m ++ encL enc 0 (xs.take (i + 1))) = l ++ (leB 1 m ++ encL enc 0 (xs.take i)) ++ enc i xs[i]! := by
      have e : 0 + (xs.take i).length = i := by simp; omega
      rw [take_snoc (by omega), encL_snoc, e]; simp only [List.append_assoc]
    have hsm := wf.small i
    haveI hact : ∀ (s2 : St) [h0 : Sx s .no s2] [h1 : Own s2 b 66 (cats [#[.pointer (some ⟨b, 0, none⟩)], #[.slice A2 n2 c2]])] [h2 : Row s2 A2 n2 c2 5 u8E (l ++ (leB 1 m ++ encL enc 0 (xs.take i)))], ValRule Try.prog fv [.agg (kc xs[i]!)] s2 (fun K _ => (n2 + len i ≤ 140737488355328) ∧ ∀ σ' A' c', Nx s2 σ' (.un (.un (.one b 66) (.row A2 5)) X) → RowNew s2 A2 A' → Own σ' b 66 (cats [#[.pointer (some ⟨b, 0, none⟩)], #[.slice A' (n2 + len i) c']]) → Row σ' A' (n2 + len i) c' 5 u8E (l ++ (leB 1 m ++ encL enc 0 (xs.take i)) ++ enc i xs[i]!) → I (i + 1) σ' → K (.tuple #[]) σ') := fun s2 h0 h1 h2 => by
      haveI := Sx.nx h0
      exact wf.rule s2 A2 n2 c2 _ i xs[i]! (Sx.nx inferInstance) (Gr.rn inferInstance) h1 h2 (wf.nx s s2 A2 i (Sx.nx (inferInstance : Sx s (.un (.one b 66) (.row A2 5)) s2)).p hI)
    (repeat (first | refine go ?_ | refine goR ?_ | refine goS (fun yc hyc => ?_) | refine goL (fun _ _ => inferInstance) ?_ | with_reducible intro _ | refine goO (by first | omega | (simp only [List.length_cons, List.length_nil]; omega)) ?_ | fail))
    refine loop_w (i + 1) ⟨At.to (.int .i64 ((i : Int) + 1)) (by simp), hlt, _, _, _, inferInstance, by rw [hst]; infer_instance, Gr.rn inferInstance, by assumption, by omega, by omega⟩ (by omega)
  · haveI : BV (decide ((i : Int) < (m : Int))) false := ⟨by simpa using hlt⟩
    rw [take_all (by omega)] at hr
    (repeat (first | refine go ?_ | refine goR ?_ | refine goS (fun yc hyc => ?_) | refine goL (fun _ _ => inferInstance) ?_ | with_reducible intro _ | refine goO (by first | omega | (simp only [List.length_cons, List.length_nil]; omega)) ?_ | fail))
    exact resN Try.results39 (hK _ _ _ _ (Sx.nx inferInstance) (Gr.rn inferInstance) inferInstance hr (by omega) hn3)⟩
end
end Go.Proofs.Ythdhnkgnbdociaa
