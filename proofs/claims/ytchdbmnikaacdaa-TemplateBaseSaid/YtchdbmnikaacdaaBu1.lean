/- Texts of this claim, merged: Eng, Val, Ops, Drw, Go, Sl, Sm, Cp, Sn, Nu, Sp, Fnv. No condition. -/
import Derived.WalkKit
import Derived.Orders
import Derived.Test.YtchdbmnikaacdaaProg
import GoSem.Extern.BytealgCompare
import Derived.Laws.CopyRow
import Derived.Laws.Cells
import Derived.Laws.Externs
import Derived.KernelRfl
import Derived.Laws.AppendOwn
import Derived.Laws.MakeOwn
import Derived.Maps.AppendAt
import GoSem.Extern.SlicesOverlaps
import Derived.Laws.Entries
import Derived.Laws.BitsLemmas
import Derived.Laws.Bits64
/- The engine, part 1: frames as functions, states, and the judgements 'WL' (a list of operations), 'WC' (code), with one step per operation found by instances.  -/
set_option linter.all false
namespace Go.Proofs.Ytchdbmnikaacdaa
open Go Go.RowKit

/-! ### Numbers that differ -/
class NeN (a b : Nat) : Prop where
  ne : a ≠ b
class EqB (a b : Bool) : Prop where
  eq : a = b
instance eqBrefl {a : Bool} : EqB a a := ⟨rfl⟩
theorem ne_of_beq_f {a b : Nat} (h : Nat.beq a b = false) : a ≠ b := fun e => by subst e; simp at h
instance neNbeq {a b : Nat} [h : EqB (Nat.beq a b) false] : NeN a b := ⟨ne_of_beq_f h.eq⟩
class EqN (a b : Nat) : Prop where
  eq : a = b
instance EqN.refl {a : Nat} : EqN a a := ⟨rfl⟩
class LtN (a b : Nat) : Prop where
  lt : a < b
theorem lt_of_blt {a b : Nat} (h : Nat.blt a b = true) : a < b := Nat.le_of_ble_eq_true h

/-! ### Frames -/
abbrev Fr := Nat → Value
def fr (a : Act) : Fr := fun j => a.tmps.getD j undef
def upd (f : Fr) (d : Nat) (v : Value) : Fr := fun j => if j = d then v else f j
def evo (f : Fr) : Operand → Value
  | .tmp t => f t
  | .const v => v
  | .global g => .pointer (some ⟨g, 0, none⟩)
  | .func g => .func (.func g) #[] #[]
theorem eval_fr (a : Act) : a.eval = evo (fr a) := by funext x; cases x <;> rfl
theorem fr_put {a : Act} {d : Nat} {v : Value} (h : d < a.tmps.size) : fr (a.put (some d) v) = upd (fr a) d v := by
  funext j
  unfold fr upd Act.put
  by_cases e : j = d
  · subst e; simp [h]
  · simp [e, Array.getElem?_setIfInBounds_ne (Ne.symm e)]
theorem fr_put_none {a : Act} {v : Value} : fr (a.put none v) = fr a := rfl
theorem size_put {a : Act} {d : Option Nat} {v : Value} : (a.put d v).tmps.size = a.tmps.size := by cases d <;> simp [Act.put]
theorem defers_put {a : Act} {d : Option Nat} {v : Value} : (a.put d v).defers = a.defers := by cases d <;> rfl
theorem upd_self {f : Fr} {d : Nat} {v : Value} (h : f d = v) : upd f d v = f := by
  funext j; unfold upd; split
  · rename_i e; rw [e, h]
  · rfl

class At (f : Fr) (j : Nat) (v : outParam Value) : Prop where
  eq : f j = v
instance At.hit {f : Fr} {d : Nat} {v : Value} : At (upd f d v) d v := ⟨by simp [upd]⟩
instance (priority := low) At.miss {f : Fr} {j d : Nat} {u v : Value} [h : NeN j d] [g : At f j v] : At (upd f d u) j v := ⟨by unfold upd; rw [if_neg h.ne]; exact g.eq⟩

theorem mul_nz {a b : Nat} (h : Nat.mul a b ≠ 0) : a ≠ 0 ∧ b ≠ 0 := ⟨fun e => h (by subst e; exact Nat.zero_mul b), fun e => h (by subst e; exact Nat.mul_zero a)⟩
theorem xor_nz {a b : Nat} (h : Nat.xor a b ≠ 0) : a ≠ b := fun e => h (by subst e; exact Nat.xor_self a)
instance (priority := low) At.miss4 {f : Fr} {j a b c d : Nat} {t u w x v : Value} [h : EqB (Nat.beq (Nat.mul (Nat.xor j a) (Nat.mul (Nat.xor j b) (Nat.mul (Nat.xor j c) (Nat.xor j d)))) 0) false] [g : At f j v] : At (upd (upd (upd (upd f d x) c w) b u) a t) j v := ⟨by
  obtain ⟨h1, h0⟩ := mul_nz (ne_of_beq_f h.eq)
  obtain ⟨h2, h0⟩ := mul_nz h0
  obtain ⟨h3, h4⟩ := mul_nz h0
  unfold upd
  rw [if_neg (xor_nz h1), if_neg (xor_nz h2), if_neg (xor_nz h3), if_neg (xor_nz h4)]
  exact g.eq⟩
/-- a frame that differs at most at the places that W names -/
def bitN (W j : Nat) : Bool := Nat.beq (Nat.land (Nat.shiftRight W j) 1) 1
class Agree (f : Fr) (W : outParam Nat) (f0 : outParam Fr) : Prop where
  h : ∀ j, Nat.beq (Nat.land (Nat.shiftRight W j) 1) 1 = false → f j = f0 j
theorem Agree.rfl {f : Fr} {W : Nat} : Agree f W f := ⟨fun _ _ => _root_.rfl⟩
instance (priority := low) At.agree {f f0 : Fr} {W j : Nat} {v : Value} [h : Agree f W f0] [k : EqB (Nat.beq (Nat.land (Nat.shiftRight W j) 1) 1) false] [g : At f0 j v] : At f j v := ⟨(h.h j k.eq).trans g.eq⟩
/-- the same, asked for -/
class AgreeG (f : Fr) (W : Nat) (f0 : Fr) : Prop where
  h : Agree f W f0
instance AgreeG.refl {f : Fr} {W : Nat} : AgreeG f W f := ⟨Agree.rfl⟩
instance (priority := high) AgreeG.self {f f0 : Fr} {W : Nat} [h : Agree f W f0] : AgreeG f W f0 := ⟨h⟩
instance (priority := low) AgreeG.upd {f f0 : Fr} {W d : Nat} {v : Value} [k : EqB (Nat.beq (Nat.land (Nat.shiftRight W d) 1) 1) true] [h : AgreeG f W f0] : AgreeG (upd f d v) W f0 := ⟨⟨fun j hj => by
  unfold Go.Proofs.Ytchdbmnikaacdaa.upd
  split
  · rename_i e; subst e; rw [k.eq] at hj; cases hj
  · exact h.h.h j hj⟩⟩
instance (priority := low) AgreeG.tr {f f0 f1 : Fr} {W W1 : Nat} [h : Agree f W1 f1] [k : EqB (Nat.beq (Nat.lor W1 W) W) true] [g : AgreeG f1 W f0] : AgreeG f W f0 := ⟨⟨fun j hj => by
  have e : ∀ V, Nat.beq (Nat.land (Nat.shiftRight V j) 1) 1 = V.testBit j := fun V => by
    show Nat.beq ((V >>> j) &&& 1) 1 = _
    unfold Nat.testBit
    rw [Nat.and_comm]
    rcases Nat.mod_two_eq_zero_or_one (V >>> j) with h | h <;> simp [Nat.one_and_eq_mod_two, h] <;> rfl
  have hl : W1 ||| W = W := Nat.eq_of_beq_eq_true k.eq
  have hw := h.h j
  have gw := g.h.h j
  rw [e] at hj hw gw
  rw [← hl, Nat.testBit_or, Bool.or_eq_false_iff] at hj
  exact (hw hj.1).trans (gw hj.2)⟩⟩

theorem At.to {f : Fr} {j : Nat} {u : Value} (v : Value) [h : At f j v] (e : v = u) : At f j u := ⟨h.eq.trans e⟩
class Ev (f : Fr) (x : Operand) (v : outParam Value) : Prop where
  eq : evo f x = v
instance Ev.tmp {f : Fr} {j : Nat} {v : Value} [h : At f j v] : Ev f (.tmp j) v := ⟨h.eq⟩
instance Ev.const {f : Fr} {v : Value} : Ev f (.const v) v := ⟨rfl⟩
instance Ev.func {f : Fr} {g : FuncId} : Ev f (.func g) (.func (.func g) #[] #[]) := ⟨rfl⟩
class EvL (f : Fr) (xs : List Operand) (vs : outParam (List Value)) : Prop where
  eq : xs.map (evo f) = vs
instance EvL.nil {f : Fr} : EvL f [] [] := ⟨rfl⟩
instance EvL.cons {f : Fr} {x : Operand} {xs : List Operand} {v : Value} {vs : List Value} [h : Ev f x v] [g : EvL f xs vs] : EvL f (x :: xs) (v :: vs) := ⟨by simp [h.eq, g.eq]⟩

/-! ### States: a world, and the blocks that may still turn -/
structure St where
  w : World
  M : Nat → Prop
  wf : ∀ b, M b → b < w.heap.size

inductive Xs where
  | no
  | one (b : Nat) (t : TypeId)
  | row (A : Option Addr) (t : TypeId)
  | map (r : Nat)
  | many (p : Nat → Prop)
  | un (X Y : Xs)

def Xs.hits : Xs → Nat → Prop
  | .no, _ => False
  | .one b' _, b => b = b'
  | .row A _, b => ∃ a, A = some a ∧ a.block = b
  | .map r, b => b = r
  | .many p, b => p b
  | .un X Y, b => X.hits b ∨ Y.hits b
/-- what these blocks are -/
def Xs.typed : Xs → World → Prop
  | .no, _ => True
  | .one b t, w => ∃ cs fz, w.heap[b]? = some (.cells cs t fz)
  | .row A t, w => ∀ a, A = some a → ∃ cs fz, w.heap[a.block]? = some (.cells cs t fz)
  | .map r, w => ∃ es ck, w.heap[r]? = some (.map es ck)
  | .many _, _ => True
  | .un X Y, w => X.typed w ∧ Y.typed w

structure NxP (σ σ' : St) (X : Xs) : Prop where
  os : σ'.w.os = σ.w.os
  tape : σ'.w.tape = σ.w.tape
  output : σ'.w.output = σ.w.output
  size : σ.w.heap.size ≤ σ'.w.heap.size
  imm : ∀ b, b < σ.w.heap.size → ¬ σ.M b → σ'.w.heap[b]? = σ.w.heap[b]?
  mm : ∀ b, b < σ.w.heap.size → σ'.M b → σ.M b
  own : ∀ b, b < σ.w.heap.size → ¬ X.hits b → σ'.w.heap[b]? = σ.w.heap[b]? ∧ (σ.M b → σ'.M b)
  ty : X.typed σ.w

class Nx (σ : outParam St) (σ' : St) (X : outParam Xs) : Prop where
  p : NxP σ σ' X

theorem NxP.refl (σ : St) : NxP σ σ .no :=
  ⟨rfl, rfl, rfl, Nat.le_refl _, fun _ _ _ => rfl, fun _ _ h => h, fun _ _ _ => ⟨rfl, id⟩, trivial⟩

/-- 'σ' comes of σ0, and all blocks that were there are as they were. -/
class Sub (σ0 σ : St) : Prop where
  b : Below σ0.w.heap.size σ0.w σ.w
  m : ∀ b, σ0.M b → σ.M b
  mm : ∀ b, b < σ0.w.heap.size → σ.M b → σ0.M b

/-! ### One operation -/
def OpW (P : Program) (op : Op) (ty : TypeId) (f : Fr) (w : World) (K : Value → World → Prop) (E : List PanicEntry → World → Prop) : Prop :=
  match (execOp (evo f) ⟨none, op, ty, "", #[], none⟩).run P w with
  | .ok (.value v) w' => K v w'
  | .ok .skip w' => K undef w'
  | .ok (.enter g args) w' => Calls P g args w' fun
      | .returned v, w'' => K v w''
      | .panicked c, w'' => E c w''
      | .outgrown, _ => False
  | .halt (.panic v) w' => E [{ v, recovered := false }] w'
  | _ => False

theorem execOp_shape (ρ : Operand → Value) (d : Option Nat) (op : Op) (ty : TypeId) (pos : String) (aft : Array Edge) (g : Option (Nat × Bool)) :
    execOp ρ ⟨d, op, ty, pos, aft, g⟩ = execOp ρ ⟨none, op, ty, "", #[], none⟩ := rfl

theorem Oper.wp_of_OpW {P : Program} {o : Oper} {a : Act} {w : World} {next : Act → World → Prop} {Q : Exit → Act → World → Prop} {E : List PanicEntry → World → Prop}
    (h : OpW P o.op o.type (fr a) w (fun v w' => next (a.put o.dst v) w') E) (hE : ∀ c w', E c w' → Q (.panic c) a w') : o.wp P a w next Q := by
  obtain ⟨d, op, ty, pos, aft, g⟩ := o
  unfold OpW at h
  unfold Oper.wp
  rw [eval_fr, execOp_shape]
  simp only at h
  generalize (execOp (evo (fr a)) ⟨none, op, ty, "", #[], none⟩).run P w = r at *
  cases r with
  | ok x w' =>
    cases x <;> simp only [Oper.upon] at h ⊢ <;> try exact h
    case enter g args =>
      refine h.mono fun e w'' he => ?_
      cases e with
      | returned v => exact he
      | panicked c => exact hE _ _ he
      | outgrown => exact he.elim
  | halt x w' =>
    cases x <;> simp only [Oper.upon] at h ⊢ <;> try exact h
    case panic v => exact hE _ _ h

theorem OpW.mono {P : Program} {op : Op} {ty : TypeId} {f : Fr} {w : World} {K K' : Value → World → Prop} {E E' : List PanicEntry → World → Prop}
    (h : OpW P op ty f w K E) (hK : ∀ v w', K v w' → K' v w') (hE : ∀ c w', E c w' → E' c w') : OpW P op ty f w K' E' := by
  unfold OpW at *
  generalize (execOp (evo f) ⟨none, op, ty, "", #[], none⟩).run P w = r at *
  cases r with
  | ok x w' =>
    cases x <;> simp only at h ⊢ <;> try exact hK _ _ h
    case enter g args =>
      refine h.mono fun e w'' he => ?_
      cases e with
      | returned v => exact hK _ _ he
      | panicked c => exact hE _ _ he
      | outgrown => exact he
  | halt x w' =>
    cases x <;> simp only at h ⊢
    case panic v => exact hE _ _ h

abbrev KV := Value → St → Prop
abbrev KE := List PanicEntry → St → Prop
abbrev Tr := KV → KE → Prop

class Step (P : Program) (op : Op) (ty : TypeId) (f : Fr) (σ : St) (S : outParam Tr) : Prop where
  sound : ∀ (K : KV) (E : KE), S K E → OpW P op ty f σ.w (fun v w' => ∃ σ' : St, σ'.w = w' ∧ K v σ') (fun c w' => ∃ σ' : St, σ'.w = w' ∧ E c σ')

/-! ### A list of operations -/
abbrev PostQ := Exit → List Deferred → Fr → St → Prop
def LQ (n : Nat) (Q : PostQ) : Exit → Act → World → Prop := fun e a w => a.tmps.size = n ∧ ∃ σ : St, σ.w = w ∧ Q e a.defers (fr a) σ

def WL (P : Program) (ops : Array Oper) (n : Nat) (Q : PostQ) (l : List Oper) (D : List Deferred) (f : Fr) (σ : St) : Prop :=
  ∀ a : Act, a.tmps.size = n → a.defers = D → fr a = f → wpList P ops (LQ n Q) l a σ.w

section
variable {P : Program} {ops : Array Oper} {n : Nat} {Q : PostQ} {l : List Oper} {D : List Deferred} {f : Fr} {σ : St}

theorem WL.nil (h : Q .normal D f σ) : WL P ops n Q [] D f σ := by
  rintro a hn rfl rfl
  exact ⟨hn, σ, rfl, h⟩

theorem WL.step {d : Nat} {op : Op} {ty : TypeId} {pos : String} {aft : Array Edge} {S : Tr} [i : Step P op ty f σ S] (hd : Nat.blt d n = true)
    (h : S (fun v σ' => WL P ops n Q l D (upd f d v) σ') (fun c σ' => Q (.panic c) D f σ')) :
    WL P ops n Q (⟨some d, op, ty, pos, aft, none⟩ :: l) D f σ := by
  rintro a hn rfl rfl
  refine wpList_plain rfl (fun K hK => ?_)
  refine Oper.wp_of_OpW (E := fun c w' => ∃ σ' : St, σ'.w = w' ∧ Q (.panic c) a.defers (fr a) σ') ?_ (fun c w' hc => ⟨hn, hc⟩)
  refine (i.sound _ _ h).mono ?_ (fun _ _ h => h)
  rintro v _ ⟨σ', rfl, h'⟩
  exact hK _ _ (h' _ (by rw [size_put, hn]) defers_put (fr_put (by rw [hn]; exact lt_of_blt hd)))

theorem WL.stepR {d : Nat} {op : Op} {ty : TypeId} {pos : String} {aft : Array Edge} {S : Tr} [i : Step P op ty f σ S] [hd : EqB (Nat.ble n d) false]
    (h : S (fun v σ' => WL P ops n Q l D (upd f d v) σ') (fun c σ' => Q (.panic c) D f σ')) :
    WL P ops n Q (⟨some d, op, ty, pos, aft, none⟩ :: l) D f σ := by
  refine WL.step (Nat.ble_eq_true_of_le (?_ : d + 1 ≤ n)) h
  have := hd.eq
  exact Nat.lt_of_not_le fun k => by rw [Nat.ble_eq_true_of_le k] at this; cases this
theorem WL.step0 {op : Op} {ty : TypeId} {pos : String} {aft : Array Edge} {S : Tr} [i : Step P op ty f σ S]
    (h : S (fun _ σ' => WL P ops n Q l D f σ') (fun c σ' => Q (.panic c) D f σ')) :
    WL P ops n Q (⟨none, op, ty, pos, aft, none⟩ :: l) D f σ := by
  rintro a hn rfl rfl
  refine wpList_plain rfl (fun K hK => ?_)
  refine Oper.wp_of_OpW (E := fun c w' => ∃ σ' : St, σ'.w = w' ∧ Q (.panic c) a.defers (fr a) σ') ?_ (fun c w' hc => ⟨hn, hc⟩)
  refine (i.sound _ _ h).mono ?_ (fun _ _ h => h)
  rintro v _ ⟨σ', rfl, h'⟩
  exact hK _ _ (h' _ (by rw [size_put, hn]) defers_put fr_put_none)

/-- the same judgement, its first operation guarded: a name for the driver -/
def WLg (P : Program) (ops : Array Oper) (n : Nat) (Q : PostQ) (o : Oper) (l : List Oper) (D : List Deferred) (f : Fr) (σ : St) : Prop := WL P ops n Q (o :: l) D f σ
theorem WL.guard {d : Option Nat} {g : Nat × Bool} {op : Op} {ty : TypeId} {pos : String} {aft : Array Edge} (h : WLg P ops n Q ⟨d, op, ty, pos, aft, some g⟩ l D f σ) : WL P ops n Q (⟨d, op, ty, pos, aft, some g⟩ :: l) D f σ := h
/-- An operation with a guard whose outcome stands in the frame. -/
theorem yielded_at {a : Act} {g t : Nat} {c : Bool} (ht : (ops[g]?).bind (·.dst) = some t) (hl : t < a.tmps.size) (h : fr a t = .bool c) : yielded ops a.tmps g = some c := by
  unfold yielded
  rw [ht]
  simp only [Option.bind_some]
  unfold fr at h
  rw [Array.getElem?_eq_getElem hl]
  simp only [Array.getD, hl, dif_pos] at h
  have : a.tmps[t] = .bool c := h
  rw [this]

theorem WL.hit {d : Option Nat} {g t : Nat} {b : Bool} {op : Op} {ty : TypeId} {pos : String} {aft : Array Edge} (ht : (ops[g]?).bind (·.dst) = some t) (hl : Nat.blt t n = true) [h : At f t (.bool b)]
    (hh : WL P ops n Q (⟨d, op, ty, pos, aft, none⟩ :: l) D f σ) : WL P ops n Q (⟨d, op, ty, pos, aft, some (g, b)⟩ :: l) D f σ := by
  intro a hn hD hf
  have h1 := hh a hn hD hf
  subst hf
  have hy := yielded_at ht (by rw [hn]; exact lt_of_blt hl) h.eq
  simp only [wpList, Region.wanted, hy, if_true, BEq.rfl] at h1 ⊢
  exact h1

theorem WL.missed {d g t : Nat} {b b' : Bool} {op : Op} {ty : TypeId} {pos : String} {aft : Array Edge} (ht : (ops[g]?).bind (·.dst) = some t) (hl : Nat.blt t n = true) (hd : Nat.blt d n = true)
    [h : At f t (.bool b')] (hb : (b' == b) = false) (hh : WL P ops n Q l D (upd f d undef) σ) : WL P ops n Q (⟨some d, op, ty, pos, aft, some (g, b)⟩ :: l) D f σ := by
  rintro a hn rfl rfl
  have hy := yielded_at ht (by rw [hn]; exact lt_of_blt hl) h.eq
  have hne : (some b' == some b) = false := by simpa using hb
  simp only [wpList, Region.wanted, hy, hne]
  exact hh _ (by rw [size_put, hn]) defers_put (fr_put (by rw [hn]; exact lt_of_blt hd))

theorem WL.missed0 {g t : Nat} {b b' : Bool} {op : Op} {ty : TypeId} {pos : String} {aft : Array Edge} (ht : (ops[g]?).bind (·.dst) = some t) (hl : Nat.blt t n = true)
    [h : At f t (.bool b')] (hb : (b' == b) = false) (hh : WL P ops n Q l D f σ) : WL P ops n Q (⟨none, op, ty, pos, aft, some (g, b)⟩ :: l) D f σ := by
  rintro a hn rfl rfl
  have hy := yielded_at ht (by rw [hn]; exact lt_of_blt hl) h.eq
  have hne : (some b' == some b) = false := by simpa using hb
  simp only [wpList, Region.wanted, hy, hne]
  exact hh _ (by rw [size_put, hn]) defers_put fr_put_none

/-- The guard's outcome is not known: both ways, the frame bearing it. -/
theorem WL.part {d : Option Nat} {g t : Nat} {b c : Bool} {op : Op} {ty : TypeId} {pos : String} {aft : Array Edge} (_ht : (ops[g]?).bind (·.dst) = some t) [h : At f t (.bool c)]
    (h1 : c = true → WL P ops n Q (⟨d, op, ty, pos, aft, some (g, b)⟩ :: l) D (upd f t (.bool true)) σ) (h2 : c = false → WL P ops n Q (⟨d, op, ty, pos, aft, some (g, b)⟩ :: l) D (upd f t (.bool false)) σ) :
    WL P ops n Q (⟨d, op, ty, pos, aft, some (g, b)⟩ :: l) D f σ := by
  cases c
  · have := h2 rfl; rwa [upd_self h.eq] at this
  · have := h1 rfl; rwa [upd_self h.eq] at this
end

/-! ### Code -/
def WC (P : Program) (n : Nat) (Q : PostQ) (c : Code) (D : List Deferred) (f : Fr) (σ : St) : Prop :=
  ∀ a : Act, a.tmps.size = n → a.defers = D → fr a = f → Code.wp P c (LQ n Q) a σ.w

def thenQ (next : List Deferred → Fr → St → Prop) (Q : PostQ) : PostQ
  | .normal, D, f, σ => next D f σ
  | e, D, f, σ => Q e D f σ
def blockQ (id : Nat) (Q : PostQ) : PostQ
  | .exit id', D, f, σ => if id' = id then Q .normal D f σ else Q (.exit id') D f σ
  | e, D, f, σ => Q e D f σ

section
variable {P : Program} {n : Nat} {Q : PostQ} {D : List Deferred} {f : Fr} {σ : St}

theorem WC.skip (h : Q .normal D f σ) : WC P n Q .skip D f σ := by
  rintro a hn rfl rfl
  exact wp_skip ⟨hn, σ, rfl, h⟩
theorem WC.ret (h : Q .ret D f σ) : WC P n Q .ret D f σ := by
  rintro a hn rfl rfl
  exact wp_ret ⟨hn, σ, rfl, h⟩
theorem WC.exit {id : Nat} (h : Q (.exit id) D f σ) : WC P n Q (.exit id) D f σ := by
  rintro a hn rfl rfl
  exact wp_exit ⟨hn, σ, rfl, h⟩
theorem WC.region {id : Nat} {l : List Oper} (h : WL P l.toArray n Q l D f σ) : WC P n Q (.region id l.toArray false) D f σ := by
  intro a hn hD hf
  exact wp_region_lit (h a hn hD hf)
theorem WC.seq {x y : Code} (h : WC P n (thenQ (fun D' f' σ' => WC P n Q y D' f' σ') Q) x D f σ) : WC P n Q (.seq x y) D f σ := by
  intro a hn hD hf
  refine wp_seq (wp_mono (h a hn hD hf) ?_)
  rintro e a' _ ⟨hn', σ', rfl, hq⟩
  cases e with
  | normal => exact hq a' hn' rfl rfl
  | _ => exact ⟨hn', σ', rfl, hq⟩
/-- the same, what follows being kept behind a name -/
theorem WC.seqV {x y : Code} (h : ∀ y' : Code, y' = y → WC P n (thenQ (fun D' f' σ' => WC P n Q y' D' f' σ') Q) x D f σ) : WC P n Q (.seq x y) D f σ := WC.seq (h y rfl)
theorem WC.code_ {y y' : Code} (h : y' = y) (k : WC P n Q y D f σ) : WC P n Q y' D f σ := h ▸ k
theorem WC.block {id : Nat} {c : Code} (h : WC P n (blockQ id Q) c D f σ) : WC P n Q (.block id c) D f σ := by
  intro a hn hD hf
  refine wp_block (wp_mono (h a hn hD hf) ?_)
  rintro e a' _ ⟨hn', σ', rfl, hq⟩
  cases e with
  | exit id' =>
    simp only [Exit.inBlock, blockQ] at hq ⊢
    split
    · rename_i e; rw [if_pos e] at hq; exact ⟨hn', σ', rfl, hq⟩
    · rename_i e; rw [if_neg e] at hq; exact ⟨hn', σ', rfl, hq⟩
  | _ => exact ⟨hn', σ', rfl, hq⟩
theorem WC.cond {c : Operand} {x y : Code} {b : Bool} [h : Ev f c (.bool b)] (h1 : b = true → WC P n Q x D f σ) (h2 : b = false → WC P n Q y D f σ) : WC P n Q (.cond c x y) D f σ := by
  rintro a hn hD rfl
  exact wp_cond_split (by rw [eval_fr]; exact h.eq) (fun e => h1 e a hn hD rfl) (fun e => h2 e a hn hD rfl)
theorem WC.condT {c : Operand} {x y : Code} [h : Ev f c (.bool true)] (h1 : WC P n Q x D f σ) : WC P n Q (.cond c x y) D f σ := WC.cond (b := true) (fun _ => h1) (fun e => by cases e)
theorem WC.condF {c : Operand} {x y : Code} [h : Ev f c (.bool false)] (h1 : WC P n Q y D f σ) : WC P n Q (.cond c x y) D f σ := WC.cond (b := false) (fun e => by cases e) (fun _ => h1)
theorem WC.mono {Q' : PostQ} {c : Code} (h : WC P n Q c D f σ) (hq : ∀ e D f σ, Q e D f σ → Q' e D f σ) : WC P n Q' c D f σ := by
  intro a hn hD hf
  refine wp_mono (h a hn hD hf) ?_
  rintro e a' _ ⟨hn', σ', rfl, hq'⟩
  exact ⟨hn', σ', rfl, hq _ _ _ _ hq'⟩

/-- A loop: what holds at each round's head, by an index that each round lowers. -/
def loopQ {ι : Type} (Inv : ι → Fr → St → Prop) (μ : ι → Nat) (i : ι) (D : List Deferred) (Q : PostQ) : PostQ
  | .normal, D', f, σ => D' = D ∧ ∃ i', Inv i' f σ ∧ μ i' < μ i
  | e, D', f, σ => Q e D' f σ
theorem WC.loop {ι : Type} (Inv : ι → Fr → St → Prop) (μ : ι → Nat) {c : Code} (i0 : ι) (h0 : Inv i0 f σ)
    (h : ∀ i f' σ', Inv i f' σ' → WC P n (loopQ Inv μ i D Q) c D f' σ') : WC P n Q (.loop c) D f σ := by
  intro a hn hD0 hf0
  subst hf0
  intro b kk cs
  have key : ∀ k i (a : Act) (σ : St), a.tmps.size = n → a.defers = D → μ i = k → Inv i (fr a) σ →
      ∃ e a' w', LQ n Q e a' w' ∧ Arrives P (lone (b.at a (.code c :: .inLoop c :: kk)) cs σ.w) b kk cs e a' w' := by
    intro k
    induction k using Nat.strongRecOn with
    | _ k ih =>
      intro i a σ hn hD hk hI
      obtain ⟨e, a1, w1, hq, harr⟩ := h i _ _ hI a hn hD rfl b (.inLoop c :: kk) cs
      cases e with
      | normal =>
        obtain ⟨hn1, σ1, rfl, hD1, i1, hI1, hlt⟩ := hq
        obtain ⟨e2, a2, w2, hq2, harr2⟩ := ih (μ i1) (by omega) i1 a1 σ1 hn1 hD1 rfl hI1
        exact ⟨e2, a2, w2, hq2, .of_steps (Steps.trans harr (.one step_inLoop)) harr2⟩
      | exit id => exact ⟨_, a1, w1, hq, .pass (x := .inLoop c) rfl (fun _ _ => .inl (by simp)) harr⟩
      | goto l => exact ⟨_, a1, w1, hq, .pass (x := .inLoop c) rfl (fun _ _ => .inl (by simp)) harr⟩
      | ret => exact ⟨_, a1, w1, hq, .pass (x := .inLoop c) rfl (fun _ _ => .inl (by simp)) harr⟩
      | panic ch => exact ⟨_, a1, w1, hq, .pass (x := .inLoop c) rfl (fun _ _ => .inl (by simp)) harr⟩
      | outgrown => exact ⟨_, a1, w1, hq, .pass (x := .inLoop c) rfl (fun _ _ => .inl (by simp)) harr⟩
  obtain ⟨e, a', w', hq, harr⟩ := key _ i0 a σ hn hD0 rfl h0
  exact ⟨e, a', w', hq, .of_steps (.one step_loop) harr⟩
/-- the same; what the loop leaves alone need not be told: 'W' names the places of the frame that it writes -/
def loopQA {ι : Type} (Inv : ι → Fr → St → Prop) (μ : ι → Nat) (W : Nat) (f0 : Fr) (σ0 : St) (X : Xs) (i : ι) (D : List Deferred) (Q : PostQ) : PostQ
  | .normal, D', f, σ => D' = D ∧ ∃ i', (Agree f W f0 ∧ Nx σ0 σ X ∧ Inv i' f σ) ∧ μ i' < μ i
  | e, D', f, σ => Q e D' f σ
theorem WC.loopX {ι : Type} (W : Nat) (X : Xs) (Inv : ι → Fr → St → Prop) (μ : ι → Nat) {c : Code} (i0 : ι) (hx : NxP σ σ X) (h0 : Inv i0 f σ)
    (h : ∀ i f' σ', Agree f' W f → Nx σ σ' X → Inv i f' σ' → WC P n (loopQA Inv μ W f σ X i D Q) c D f' σ') : WC P n Q (.loop c) D f σ :=
  WC.loop (fun i f' σ' => Agree f' W f ∧ Nx σ σ' X ∧ Inv i f' σ') μ i0 ⟨Agree.rfl, ⟨hx⟩, h0⟩ (fun i f' σ' ⟨a, b, c⟩ => WC.mono (h i f' σ' a b c) (fun e D f σ hq => by cases e <;> exact hq))
/-- a loop that is left in its first round -/
theorem WC.loop1 {c : Code} (h : WC P n (thenQ (fun _ _ _ => False) Q) c D f σ) : WC P n Q (.loop c) D f σ :=
  WC.loop (fun (_ : Unit) f' σ' => f' = f ∧ σ' = σ) (fun _ => 0) () ⟨rfl, rfl⟩ (fun i f' σ' ⟨hf, hs⟩ => by
    subst hf; subst hs
    refine WC.mono h (fun e D f σ hq => ?_)
    cases e <;> first | exact hq | exact hq.elim)
/-- the ways through a part meet again -/
theorem WC.cut {next : List Deferred → Fr → St → Prop} (R : Fr → St → Prop) {c : Code} (h1 : WC P n (thenQ (fun D' f' σ' => D' = D ∧ R f' σ') Q) c D f σ) (h2 : ∀ f σ, R f σ → next D f σ) : WC P n (thenQ next Q) c D f σ :=
  WC.mono h1 (fun e D' f' σ' hq => by
    cases e with
    | normal => obtain ⟨rfl, h⟩ := hq; exact h2 _ _ h
    | _ => exact hq)
theorem WC.use {c : Code} (h : WC P n Q c D f σ) : ∀ a : Act, a.tmps.size = n → a.defers = D → fr a = f → Code.wp P c (LQ n Q) a σ.w := h
theorem WC.of {c : Code} (h : ∀ a : Act, a.tmps.size = n → a.defers = D → fr a = f → Code.wp P c (LQ n Q) a σ.w) : WC P n Q c D f σ := h
theorem WL.use {ops : Array Oper} {l : List Oper} (h : WL P ops n Q l D f σ) : ∀ a : Act, a.tmps.size = n → a.defers = D → fr a = f → wpList P ops (LQ n Q) l a σ.w := h
theorem WL.of {ops : Array Oper} {l : List Oper} (h : ∀ a : Act, a.tmps.size = n → a.defers = D → fr a = f → wpList P ops (LQ n Q) l a σ.w) : WL P ops n Q l D f σ := h
end
attribute [irreducible] WC WL
end Go.Proofs.Ytchdbmnikaacdaa

/- Plain values: keys of 32 bytes, points, outs, coins; their cells; the order of keys.  -/
set_option linter.all false
namespace Go.Proofs.Ytchdbmnikaacdaa
open Go Go.RowKit

abbrev Key := Vector UInt8 32
def u8v (b : UInt8) : Value := .int .u8 (b.toNat : Int)
def kc (k : Key) : Array Value := k.toArray.map u8v
theorem kc_size (k : Key) : (kc k).size = 32 := by simp [kc]
theorem kc_get (k : Key) (i : Nat) (h : i < 32) : (kc k)[i]? = some (u8v k[i]) := by simp [kc, h]
theorem u8v_inj {a b : UInt8} (h : u8v a = u8v b) : a = b := by
  unfold u8v at h; injection h with _ h; exact UInt8.toNat_inj.1 (by omega)
theorem kc_inj {a b : Key} (h : kc a = kc b) : a = b := by
  apply Vector.ext; intro i hi
  have h1 := kc_get a i hi
  rw [h, kc_get b i hi] at h1
  injection h1 with h1
  exact (u8v_inj h1).symm

/-- the order of bytes, as1 bytes.Compare has it -/
def lexc : List UInt8 → List UInt8 → Int
  | [], [] => 0
  | [], _ :: _ => -1
  | _ :: _, [] => 1
  | a :: as1, b :: bs => if a = b then lexc as1 bs else if a < b then -1 else 1

theorem lexc_self : ∀ a, lexc a a = 0
  | [] => rfl
  | a :: as1 => by simp [lexc, lexc_self as1]
theorem lexc_eq_zero : ∀ {a b}, lexc a b = 0 → a = b
  | [], [], _ => rfl
  | [], _ :: _, h => by simp [lexc] at h
  | _ :: _, [], h => by simp [lexc] at h
  | a :: as1, b :: bs, h => by
    unfold lexc at h
    split at h
    · rename_i e; rw [e, lexc_eq_zero h]
    · split at h <;> omega
theorem lexc_swap : ∀ a b, lexc b a = - lexc a b
  | [], [] => rfl
  | [], _ :: _ => rfl
  | _ :: _, [] => rfl
  | a :: as1, b :: bs => by
    unfold lexc
    by_cases e : a = b
    · rw [if_pos e, if_pos e.symm, lexc_swap as1 bs]
    · rw [if_neg e, if_neg (Ne.symm e)]
      by_cases l : a < b
      · rw [if_pos l, if_neg (by rw [UInt8.lt_iff_toNat_lt] at *; omega)]; rfl
      · have : b < a := by
          rw [UInt8.lt_iff_toNat_lt] at *
          have : a.toNat ≠ b.toNat := fun h => e (UInt8.toNat_inj.1 h)
          omega
        rw [if_neg l, if_pos this]
theorem lexc_cases : ∀ a b, lexc a b = -1 ∨ lexc a b = 0 ∨ lexc a b = 1
  | [], [] => by simp [lexc]
  | [], _ :: _ => by simp [lexc]
  | _ :: _, [] => by simp [lexc]
  | a :: as1, b :: bs => by
    unfold lexc
    split
    · exact lexc_cases as1 bs
    · split <;> simp
theorem lexc_trans : ∀ {a b c}, lexc a b < 0 → lexc b c < 0 → lexc a c < 0
  | [], [], _, h, _ => by simp [lexc] at h
  | [], _ :: _, [], _, h => by simp [lexc] at h
  | [], _ :: _, _ :: _, _, _ => by simp [lexc]
  | _ :: _, [], _, h, _ => by simp [lexc] at h
  | a :: as1, b :: bs, [], _, h => by simp [lexc] at h
  | a :: as1, b :: bs, c :: cs, h1, h2 => by
    unfold lexc at h1 h2 ⊢
    simp only [UInt8.lt_iff_toNat_lt] at *
    by_cases e1 : a = b
    · subst e1
      rw [if_pos rfl] at h1
      by_cases e2 : a = c
      · rw [if_pos e2] at h2 ⊢; exact lexc_trans h1 h2
      · rw [if_neg e2] at h2 ⊢; exact h2
    · rw [if_neg e1] at h1
      split at h1
      · rename_i l1
        by_cases e2 : b = c
        · subst e2; rw [if_neg e1, if_pos l1]; omega
        · rw [if_neg e2] at h2
          split at h2
          · rename_i l2
            have : a ≠ c := fun e => by rw [e] at l1; omega
            rw [if_neg this, if_pos (by omega)]; omega
          · omega
      · omega

theorem find_range_lexc : ∀ (as1 bs : List UInt8),
    (match (List.range (min as1.length bs.length)).find? (fun i => as1[i]! != bs[i]!) with
      | some i => if as1[i]! < bs[i]! then (-1 : Int) else 1
      | none => if as1.length < bs.length then -1 else if as1.length > bs.length then 1 else 0) = lexc as1 bs
  | [], [] => by simp [lexc]
  | [], _ :: _ => by simp [lexc]
  | _ :: _, [] => by simp [lexc]
  | a :: as1, b :: bs => by
    have ih := find_range_lexc as1 bs
    simp only [List.length_cons, Nat.succ_min_succ, List.range_succ_eq_map, List.find?_cons]
    unfold lexc
    by_cases e : a = b
    · subst e
      simp only [List.getElem!_cons_zero, bne_self_eq_false, if_pos, List.find?_map]
      rw [← ih]
      have hc : ((fun i => (a :: as1)[i]! != (a :: bs)[i]!) ∘ Nat.succ) = fun i => as1[i]! != bs[i]! := by
        funext i; simp
      rw [hc]
      cases h : (List.range (min as1.length bs.length)).find? (fun i => as1[i]! != bs[i]!) with
      | none => simp
      | some i => simp
    · simp only [List.getElem!_cons_zero, e, if_false]
      have : (a != b) = true := by simp [e]
      rw [this]
      simp

theorem cmp_eq (as1 bs : List UInt8) : Extern.BytealgCompare.cmp ⟨as1.toArray⟩ ⟨bs.toArray⟩ = lexc as1 bs := by
  rw [← find_range_lexc]
  unfold Extern.BytealgCompare.cmp
  have h1 : (ByteArray.mk as1.toArray).size = as1.length := by simp [ByteArray.size]
  have h2 : (ByteArray.mk bs.toArray).size = bs.length := by simp [ByteArray.size]
  have g : ∀ (l : List UInt8) (i : Nat), (ByteArray.mk l.toArray)[i]! = l[i]! := by
    intro l i
    by_cases h : i < l.length
    · rw [getElem!_pos (ByteArray.mk l.toArray) i (by simpa [ByteArray.size] using h), getElem!_pos l i h]; rfl
    · rw [getElem!_neg (ByteArray.mk l.toArray) i (by simpa [ByteArray.size] using h), getElem!_neg l i h]
  simp only [h1, h2, g]
  rfl

def kcmp (a b : Key) : Int := lexc a.toList b.toList
def klt (a b : Key) : Bool := decide (kcmp a b < 0)
theorem kcmp_self (a : Key) : kcmp a a = 0 := lexc_self _
theorem kcmp_zero {a b : Key} (h : kcmp a b = 0) : a = b := by
  have := lexc_eq_zero h
  exact Vector.toList_inj.1 this
theorem kcmp_swap (a b : Key) : kcmp b a = - kcmp a b := lexc_swap _ _
theorem kcmp_cases (a b : Key) : kcmp a b = -1 ∨ kcmp a b = 0 ∨ kcmp a b = 1 := lexc_cases _ _
theorem klt_irrefl (a : Key) : klt a a = false := by simp [klt, kcmp_self]
theorem klt_trans {a b c : Key} (h1 : klt a b = true) (h2 : klt b c = true) : klt a c = true := by
  simp only [klt, decide_eq_true_eq] at *; exact lexc_trans h1 h2
theorem klt_asymm {a b : Key} (h : klt a b = true) : klt b a = false := by
  simp only [klt, decide_eq_true_eq, decide_eq_false_iff_not] at *; rw [kcmp_swap]; omega
theorem klt_total {a b : Key} (h : a ≠ b) : klt a b = true ∨ klt b a = true := by
  simp only [klt, decide_eq_true_eq]
  rw [kcmp_swap a b]
  have : kcmp a b ≠ 0 := fun e => h (kcmp_zero e)
  omega
end Go.Proofs.Ytchdbmnikaacdaa

/- The engine, part 2: what is known of memory, and one step for each kind of operation.  -/
set_option linter.all false
namespace Go.Proofs.Ytchdbmnikaacdaa
open Go Go.RowKit

/-! ### Types -/
class U (P : Program) (t : TypeId) (d : outParam TypeDesc) : Prop where
  h : P.underlying t = some d
def aggD : TypeDesc → Bool
  | .struct _ | .array _ _ => true
  | _ => false
/-- is it a struct or an array; how many cells; how many bytes -/
class TI (P : Program) (t : TypeId) (agg : outParam Bool) (size : outParam Nat) (bytes : outParam Nat) : Prop where
  h : ∃ d i, P.underlying t = some d ∧ aggD d = agg ∧ P.info? t = some i ∧ i.size = size ∧ i.bytes = bytes
class TZ (P : Program) (t : TypeId) (cs : outParam (Array Value)) : Prop where
  h : ∃ i z, P.info? t = some i ∧ i.zero = some z ∧ z.cells = cs

section
variable {P : Program} {t : TypeId} {agg : Bool} {size bytes : Nat}
theorem TI.run_isAgg (h : TI P t agg size bytes) (w : World) : (isAgg t).run P w = .ok agg w := by
  obtain ⟨d, i, hd, ha, hi, hs, hb⟩ := h.h
  unfold isAgg
  rw [Sem.run_bind, run_underlying hd]
  cases d <;> simp [aggD] at ha ⊢ <;> exact ha
theorem TI.run_sizeOf (h : TI P t agg size bytes) (w : World) : (sizeOf t).run P w = .ok size w := by
  obtain ⟨d, i, hd, ha, hi, hs, hb⟩ := h.h
  simp [sizeOf, typeInfo, hi, hs]
end

/-! ### The cells of a value -/
class Cells (v : Value) (cs : outParam (Array Value)) : Prop where
  eq : v.cells = cs
instance Cells.agg {cs : Array Value} : Cells (.agg cs) cs := ⟨rfl⟩
instance Cells.int {k : IntKind} {n : Int} : Cells (.int k n) #[.int k n] := ⟨rfl⟩
instance Cells.bool {b : Bool} : Cells (.bool b) #[.bool b] := ⟨rfl⟩
instance Cells.string {s : ByteArray} : Cells (.string s) #[.string s] := ⟨rfl⟩
instance Cells.pointer {a : Option Addr} : Cells (.pointer a) #[.pointer a] := ⟨rfl⟩
instance Cells.slice {a : Option Addr} {n c : Nat} : Cells (.slice a n c) #[.slice a n c] := ⟨rfl⟩
instance Cells.map {r : Option Nat} : Cells (.map r) #[.map r] := ⟨rfl⟩
instance Cells.func {g : Fn} {a b : Array Value} : Cells (.func g a b) #[.func g a b] := ⟨rfl⟩
instance Cells.nilFunc : Cells .nilFunc #[.nilFunc] := ⟨rfl⟩
instance Cells.iface {t : TypeId} {v : Value} : Cells (.iface t v) #[.iface t v] := ⟨rfl⟩
instance Cells.nilIface : Cells .nilIface #[.nilIface] := ⟨rfl⟩

/-- how many cells; all of them the cells of one-cell values -/
class CSz (cs : Array Value) (n : outParam Nat) : Prop where
  size : cs.size = n
  one : ∀ v ∈ cs.toList, v.oneCell' = true
theorem u8v_one (b : UInt8) : (u8v b).oneCell' = true := rfl
class CSzE (cs : Array Value) (n : Nat) : Prop where
  z : CSz cs n
instance CSzE.of {cs : Array Value} {m n : Nat} [h : CSz cs m] [e : EqB (Nat.beq m n) true] : CSzE cs n := ⟨Nat.eq_of_beq_eq_true e.eq ▸ h⟩
instance CSz.key {k : Key} : CSz (kc k) 32 := ⟨kc_size k, fun v hv => by
  simp only [kc, Array.toList_map, List.mem_map] at hv
  obtain ⟨b, _, rfl⟩ := hv; rfl⟩
class One (v : Value) : Prop where
  one : v.oneCell' = true
instance One.int {k : IntKind} {n : Int} : One (.int k n) := ⟨rfl⟩
instance One.bool {b : Bool} : One (.bool b) := ⟨rfl⟩
instance One.string {s : ByteArray} : One (.string s) := ⟨rfl⟩
instance One.pointer {a : Option Addr} : One (.pointer a) := ⟨rfl⟩
instance One.slice {a : Option Addr} {n c : Nat} : One (.slice a n c) := ⟨rfl⟩
instance One.map {r : Option Nat} : One (.map r) := ⟨rfl⟩
instance One.func {g : Fn} {a b : Array Value} : One (.func g a b) := ⟨rfl⟩
instance One.nilFunc : One .nilFunc := ⟨rfl⟩
instance One.iface {t : TypeId} {v : Value} : One (.iface t v) := ⟨rfl⟩
instance One.nilIface : One .nilIface := ⟨rfl⟩
instance CSz.one1 {v : Value} [h : One v] : CSz #[v] 1 := ⟨rfl, by simpa using h.one⟩

/-- the value of type (agg, sz) that lies at 'off' among these cells -/
class LoadV (cs : Array Value) (off sz : Nat) (agg : Bool) (v : outParam Value) : Prop where
  fit : off + sz ≤ cs.size
  agg_ : agg = true → v = .agg (cs.extract off (off + sz))
  one : agg = false → cs[off]? = some v ∧ sz = 1
instance LoadV.whole {cs : Array Value} {n : Nat} [h : CSz cs n] : LoadV cs 0 n true (.agg cs) :=
  ⟨by simp [h.size], fun _ => by simp [← h.size], fun h => by cases h⟩
instance LoadV.single {v : Value} : LoadV #[v] 0 1 false v := ⟨by simp, fun h => (by cases h), fun _ => ⟨rfl, rfl⟩⟩

/-- the cells, with those of a value put at 'off' -/
def putCells (cs : Array Value) (off : Nat) (vs : Array Value) : Array Value := (cs.toList.take off ++ vs.toList ++ cs.toList.drop (off + vs.size)).toArray
class PutV (cs : Array Value) (off : Nat) (vs : Array Value) (cs' : outParam (Array Value)) : Prop where
  fit : off + vs.size ≤ cs.size
  eq : putCells cs off vs = cs'
theorem putCells_whole {cs vs : Array Value} (h : cs.size = vs.size) : putCells cs 0 vs = vs := by
  have : cs.toList.drop vs.size = [] := List.drop_eq_nil_of_le (by simp [h])
  simp [putCells, this]
instance PutV.whole {cs vs : Array Value} {n : Nat} [h : CSz vs n] [g : CSz cs n] : PutV cs 0 vs vs := ⟨by simp [h.size, g.size], putCells_whole (by rw [h.size, g.size])⟩

/-! ### Blocks of the call's own -/
class Own (σ : St) (b : Nat) (t : outParam TypeId) (cs : outParam (Array Value)) : Prop where
  m : σ.M b
  h : σ.w.heap[b]? = some (.cells cs t (0, 0))
class NewAt (σ : outParam St) (b : Nat) : Prop where
  ge : σ.w.heap.size ≤ b
class InH (σ : St) (b : Nat) : Prop where
  lt : b < σ.w.heap.size
class NeB (b b' : Nat) : Prop where
  ne : b ≠ b'

section
variable {σ σ' : St} {b b' : Nat} {t t' : TypeId} {cs : Array Value}
theorem Own.lt (h : Own σ b t cs) : b < σ.w.heap.size := σ.wf b h.m
instance InH.own [h : Own σ b t cs] : InH σ b := ⟨h.lt⟩
instance NeB.new [h : NewAt σ b'] [g : InH σ b] : NeB b b' := ⟨by have := h.ge; have := g.lt; omega⟩
instance NeB.new' [h : NewAt σ b] [g : InH σ b'] : NeB b b' := ⟨by have := h.ge; have := g.lt; omega⟩
/-- what turned is not this block -/
class Mis (σ : St) (X : Xs) (b : Nat) (t : TypeId) : Prop where
  h : ∀ cs fz, σ.w.heap[b]? = some (.cells cs t fz) → X.typed σ.w → ¬ X.hits b
instance Mis.no : Mis σ .no b t := ⟨fun _ _ _ _ h => h⟩
instance (priority := low) Mis.one_ty [k : NeN t t'] : Mis σ (.one b' t') b t := ⟨fun cs fz h ht e => by
  subst e
  obtain ⟨cs', fz', e⟩ := ht
  rw [h] at e; injection e with e; injection e with _ e; exact k.ne e⟩
instance (priority := low) Mis.one_ne [k : NeB b b'] : Mis σ (.one b' t') b t := ⟨fun cs fz h ht e => k.ne e⟩
instance (priority := low) Mis.row_ty {A : Option Addr} [k : NeN t t'] : Mis σ (.row A t') b t := ⟨fun cs fz h ht e => by
  obtain ⟨a, rfl, rfl⟩ := e
  obtain ⟨cs', fz', e⟩ := ht a rfl
  rw [h] at e; injection e with e; injection e with _ e; exact k.ne e⟩
instance (priority := low) Mis.map {r : Nat} : Mis σ (.map r) b t := ⟨fun cs fz h ht e => by
  subst e
  obtain ⟨es, ck, e⟩ := ht
  rw [h] at e; injection e with e; cases e⟩
instance (priority := low) Mis.un {X Y : Xs} [k : Mis σ X b t] [l : Mis σ Y b t] : Mis σ (.un X Y) b t := ⟨fun cs fz h ht e => e.elim (k.h cs fz h ht.1) (l.h cs fz h ht.2)⟩
theorem Own.lift {X : Xs} (n : NxP σ σ' X) (h : Own σ b t cs) (hx : ¬ X.hits b) : Own σ' b t cs :=
  ⟨(n.own b h.lt hx).2 h.m, (n.own b h.lt hx).1.trans h.h⟩
instance (priority := low) Own.lift_ {X : Xs} [n : Nx σ σ' X] [h : Own σ b t cs] [k : Mis σ X b t] : Own σ' b t cs := h.lift n.p (k.h _ _ h.h n.p.ty)
end

/-! ### How a world changes -/
/-- a new block -/
theorem st_new (σ : St) (o : Obj) (m : Prop) : ∃ σ' : St, σ'.w = σ.w.alloc o ∧ NxP σ σ' .no ∧ (σ'.M σ.w.heap.size ↔ m) ∧ (∀ k, σ'.M k → k ≠ σ.w.heap.size → σ.M k) ∧ σ'.w.heap[σ.w.heap.size]? = some o ∧ σ'.w.heap.size = σ.w.heap.size + 1 := by
  refine ⟨⟨σ.w.alloc o, fun k => σ.M k ∨ (m ∧ k = σ.w.heap.size), ?_⟩, rfl, ⟨rfl, rfl, rfl, by simp, fun b hb _ => Below.heap_alloc _ _ _ hb, ?_, fun b hb _ => ⟨Below.heap_alloc _ _ _ hb, fun h => .inl h⟩, trivial⟩, ⟨fun h => h.elim (fun h => absurd (σ.wf _ h) (Nat.lt_irrefl _)) (·.1), fun h => .inr ⟨h, rfl⟩⟩, ?_, heap_alloc_new _ _, by simp⟩
  · rintro b (h | ⟨_, h⟩)
    · have := σ.wf b h; simp; omega
    · simp [h]
  · rintro b hb (h | ⟨_, h⟩)
    · exact h
    · omega
  · rintro k (h | ⟨_, h⟩) hk
    · exact h
    · exact absurd h hk
/-- a block of the call's own turns -/
theorem st_set {σ : St} {b : Nat} {t : TypeId} {cs : Array Value} (h : Own σ b t cs) (cs' : Array Value) : ∃ σ' : St, σ'.w = σ.w.setRow b cs' ∧ NxP σ σ' (.one b t) ∧ Own σ' b t cs' := by
  have hz : (σ.w.setRow b cs').heap.size = σ.w.heap.size := by simp [World.setRow]
  have hne : ∀ k, k ≠ b → (σ.w.setRow b cs').heap[k]? = σ.w.heap[k]? := fun k hk => by
    simp only [World.setRow, Array.getElem?_modify]; rw [if_neg (Ne.symm hk)]
  refine ⟨⟨σ.w.setRow b cs', σ.M, fun k hk => by rw [hz]; exact σ.wf k hk⟩, rfl, ⟨rfl, rfl, rfl, by rw [hz]; exact Nat.le_refl _, fun k _ hk => hne k (fun e => hk (e ▸ h.m)), fun _ _ h => h, fun k _ hk => ⟨hne k hk, id⟩, ⟨_, _, h.h⟩⟩, h.m, setRow_heap _ _ _ _ _ _ h.h⟩
/-- a draw -/
theorem st_drew (σ : St) (k : Nat) : ∃ σ' : St, σ'.w = { σ.w with drawn := k } ∧ NxP σ σ' .no :=
  ⟨⟨{ σ.w with drawn := k }, σ.M, σ.wf⟩, rfl, ⟨rfl, rfl, rfl, Nat.le_refl _, fun _ _ _ => rfl, fun _ _ h => h, fun _ _ _ => ⟨rfl, id⟩, trivial⟩⟩

theorem cell_own {w : World} {b : Nat} {t : TypeId} {cs : Array Value} {fz : Nat × Nat} (h : w.heap[b]? = some (.cells cs t fz)) (i : Nat) : w.cell? ⟨b, i, none⟩ = cs[i]? := by
  simp [World.cell?, h]
theorem add_at (b o i : Nat) : (⟨b, o, none⟩ : Addr).add i = ⟨b, o + i, none⟩ := by unfold Addr.add; split <;> simp_all

theorem run_loadVar_cells {P : Program} {w : World} {t : TypeId} {agg : Bool} {size bytes : Nat} (ti : TI P t agg size bytes) {b off : Nat} {cs : Array Value} {v : Value}
    (h : ∀ j, j < size → w.cell? ⟨b, off + j, none⟩ = cs[off + j]?) (l : LoadV cs off size agg v) : (loadVar t ⟨b, off, none⟩).run P w = .ok v w := by
  unfold loadVar
  rw [Sem.run_bind, ti.run_isAgg]
  simp only [Result.andThen_ok]
  cases agg with
  | true =>
    simp only [if_true, Sem.run_bind, ti.run_sizeOf, Result.andThen_ok]
    have hl : ((cs.extract off (off + size)).toList).length = size := by have := l.fit; simp; omega
    have hh : ∀ j v, ((cs.extract off (off + size)).toList)[j]? = some v → w.cell? ((⟨b, off, none⟩ : Addr).add j) = some v := by
      intro j v hj
      have hjl : j < size := by
        have := (List.getElem?_eq_some_iff.1 hj).1; omega
      rw [add_at, h j hjl]
      rw [Array.getElem?_toList, Array.getElem?_extract] at hj
      split at hj
      · exact hj
      · cases hj
    have := run_loadCells_list (P := P) w ⟨b, off, none⟩ _ hh
    rw [hl, Array.toArray_toList] at this
    simp only [this, Result.andThen_ok, l.agg_ rfl]
    rfl
  | false =>
    obtain ⟨h1, h2⟩ := l.one rfl
    have := h 0 (by omega)
    simp only [Nat.add_zero] at this
    simp [load, Sem.run, this, h1]

theorem run_loadVar_cells' {P : Program} {w : World} {t : TypeId} {agg : Bool} {size bytes : Nat} (ti : TI P t agg size bytes) {b off : Nat} {cs : Array Value} {v : Value}
    (h : ∀ j, j < size → w.cell? ⟨b, off + j, none⟩ = cs[j]?) (l : LoadV cs 0 size agg v) : (loadVar t ⟨b, off, none⟩).run P w = .ok v w := by
  unfold loadVar
  rw [Sem.run_bind, ti.run_isAgg]
  simp only [Result.andThen_ok]
  cases agg with
  | true =>
    simp only [if_true, Sem.run_bind, ti.run_sizeOf, Result.andThen_ok]
    have hl : ((cs.extract 0 (0 + size)).toList).length = size := by have := l.fit; simp; omega
    have hh : ∀ j v, ((cs.extract 0 (0 + size)).toList)[j]? = some v → w.cell? ((⟨b, off, none⟩ : Addr).add j) = some v := by
      intro j v hj
      have hjl : j < size := by
        have := (List.getElem?_eq_some_iff.1 hj).1; omega
      rw [add_at, h j hjl]
      rw [Array.getElem?_toList, Array.getElem?_extract] at hj
      split at hj
      · simpa using hj
      · cases hj
    have := run_loadCells_list (P := P) w ⟨b, off, none⟩ _ hh
    rw [hl, Array.toArray_toList] at this
    simp only [this, Result.andThen_ok, l.agg_ rfl]
    rfl
  | false =>
    obtain ⟨h1, h2⟩ := l.one rfl
    have := h 0 (by omega)
    simp only [Nat.add_zero] at this
    simp [load, Sem.run, this, h1]

theorem run_storeVar_own {P : Program} {w : World} {t t0 : TypeId} {agg : Bool} {size bytes : Nat} (ti : TI P t agg size bytes) {b off : Nat} {cs vs cs' : Array Value} {v : Value} (hv : Cells v vs) (hz : CSz vs size)
    (h : w.heap[b]? = some (.cells cs t0 (0, 0))) (l : PutV cs off vs cs') : (storeVar t ⟨b, off, none⟩ v).run P w = .ok () (w.setRow b cs') := by
  unfold storeVar
  rw [Sem.run_bind, ti.run_sizeOf]
  simp only [Result.andThen_ok, hv.eq, hz.size, ne_eq, not_true_eq_false, if_false]
  have := run_storeCells_at (P := P) b off t0 vs.toList 0 cs w h (by simpa using l.fit) hz.one
  simp only [Nat.add_zero, Array.length_toList] at this
  have e : (cs.toList.take off ++ vs.toList ++ cs.toList.drop (off + vs.size)).toArray = cs' := l.eq
  rw [e] at this
  simp [this]

/-- what a truth value is, where it is known: laid by hand ahead of the step -/
class BV (x : Bool) (v : outParam Bool) : Prop where
  eq : x = v
instance (priority := low) BV.self {x : Bool} : BV x x := ⟨rfl⟩
instance BV.notT : BV (!true) false := ⟨rfl⟩
instance BV.notF : BV (!false) true := ⟨rfl⟩
instance (priority := 1100) BV.eqSelf {b : Bool} : BV (b == b) true := ⟨by cases b <;> rfl⟩
instance BV.decSelf {α : Type} {a : α} [i : Decidable (a = a)] : BV (decide (a = a)) true := ⟨by simp⟩
instance BV.eqT {b : Bool} : BV (true == b) b := ⟨by cases b <;> rfl⟩
instance BV.eqT' {b : Bool} : BV (b == true) b := ⟨by cases b <;> rfl⟩
instance BV.eqFF : BV (false == false) true := ⟨rfl⟩
instance (priority := low) BV.eqF {b : Bool} : BV (false == b) (!b) := ⟨by cases b <;> rfl⟩
instance BV.eqFT : BV (false == true) false := ⟨rfl⟩
instance BV.orT {a b : Bool} [h : BV a true] : BV (a || b) true := ⟨by simp [h.eq]⟩
instance BV.orF {a b c : Bool} [h : BV a false] [g : BV b c] : BV (a || b) c := ⟨by simp [h.eq, g.eq]⟩
instance BV.andT {a b c : Bool} [h : BV a true] [g : BV b c] : BV (a && b) c := ⟨by simp [h.eq, g.eq]⟩
instance BV.andF {a b : Bool} [h : BV a false] : BV (a && b) false := ⟨by simp [h.eq]⟩
instance (priority := 900) BV.not1 {a : Bool} [h : BV a true] : BV (!a) false := ⟨by simp [h.eq]⟩
instance (priority := 900) BV.not0 {a : Bool} [h : BV a false] : BV (!a) true := ⟨by simp [h.eq]⟩
instance (priority := 900) BV.eqTL {a b c : Bool} [h : BV a true] [g : BV b c] : BV (a == b) c := ⟨by rw [h.eq, g.eq]; cases c <;> rfl⟩
instance (priority := 900) BV.eqFL {a b : Bool} [h : BV a false] [g : BV b true] : BV (a == b) false := ⟨by rw [h.eq, g.eq]; rfl⟩
instance (priority := 900) BV.eqFL' {a b : Bool} [h : BV a false] [g : BV b false] : BV (a == b) true := ⟨by rw [h.eq, g.eq]; rfl⟩
/-! ### The steps -/
section
variable {P : Program} {f : Fr} {σ : St} {ty : TypeId}
/-- an operation that yields v and leaves the world -/
class StepV (P : Program) (op : Op) (ty : TypeId) (f : Fr) (σ : St) (v : outParam Value) : Prop where
  run : (execOp (evo f) ⟨none, op, ty, "", #[], none⟩).run P σ.w = .ok (.value v) σ.w
instance (priority := high) Step.ofV {op : Op} {v : Value} [h : StepV P op ty f σ v] : Step P op ty f σ (fun K _ => K v σ) :=
  ⟨fun K E hK => by unfold OpW; rw [h.run]; exact ⟨σ, rfl, hK⟩⟩

instance Step.move {x : Operand} {v : Value} [h : Ev f x v] : StepV P (.move x) ty f σ v := ⟨(by simp [execOp, h.eq])⟩
instance Step.assign {x : Operand} {v : Value} [h : Ev f x v] : StepV P (.assign x) ty f σ v := ⟨(by simp [execOp, h.eq])⟩
instance (priority := low) Step.pick {c x y : Operand} {b : Bool} {v u : Value} [h : Ev f c (.bool b)] [h1 : Ev f x v] [h2 : Ev f y u] : StepV P (.pick c x y) ty f σ (if b then v else u) :=
  ⟨(by simp [execOp, h.eq, h1.eq, h2.eq, asBool])⟩
instance Step.pickT {c x y : Operand} {v : Value} {b : Bool} [h : Ev f c (.bool b)] [q : BV b true] [h1 : Ev f x v] : StepV P (.pick c x y) ty f σ v :=
  ⟨(by have hq := q.eq; subst hq; simp [execOp, h.eq, h1.eq, asBool])⟩
instance Step.pickF {c x y : Operand} {v : Value} {b : Bool} [h : Ev f c (.bool b)] [q : BV b false] [h1 : Ev f y v] : StepV P (.pick c x y) ty f σ v :=
  ⟨(by have hq := q.eq; subst hq; simp [execOp, h.eq, h1.eq, asBool])⟩
instance (priority := low) Step.not {x : Operand} {t : TypeId} {b : Bool} [h : Ev f x (.bool b)] : StepV P (.unOp .not t x) ty f σ (.bool (!b)) := ⟨(by simp [execOp, h.eq, Op.unary])⟩
instance Step.notT {x : Operand} {t : TypeId} [h : Ev f x (.bool true)] : StepV P (.unOp .not t x) ty f σ (.bool false) := ⟨(by simp [execOp, h.eq, Op.unary])⟩
instance Step.notF {x : Operand} {t : TypeId} [h : Ev f x (.bool false)] : StepV P (.unOp .not t x) ty f σ (.bool true) := ⟨(by simp [execOp, h.eq, Op.unary])⟩

/-- 'this number needs no wrapping': laid by hand ahead of the step -/
class Fits (k : IntKind) (n : Int) : Prop where
  eq : k.wrap n = n
theorem Fits.i64 {n : Int} (h : -9223372036854775808 ≤ n) (h' : n ≤ 9223372036854775807) : Fits .i64 n := ⟨by rw [IntKind.wrap_i64]; omega⟩
instance (priority := low) Step.add {k : IntKind} {a b : Int} {t u : TypeId} {x y : Operand} [h : Ev f x (.int k a)] [g : Ev f y (.int k b)] : StepV P (.binOp .add t x y u) ty f σ (.int k (k.wrap (a + b))) :=
  ⟨(by simp [execOp, h.eq, g.eq, binOp, eqGuard, Op.intArith])⟩
instance Step.add_fit {k : IntKind} {a b : Int} {t u : TypeId} {x y : Operand} [h : Ev f x (.int k a)] [g : Ev f y (.int k b)] [e : Fits k (a + b)] : StepV P (.binOp .add t x y u) ty f σ (.int k (a + b)) :=
  ⟨(by simp [execOp, h.eq, g.eq, binOp, eqGuard, Op.intArith, e.eq])⟩
instance (priority := low) Step.sub {k : IntKind} {a b : Int} {t u : TypeId} {x y : Operand} [h : Ev f x (.int k a)] [g : Ev f y (.int k b)] : StepV P (.binOp .sub t x y u) ty f σ (.int k (k.wrap (a - b))) :=
  ⟨(by simp [execOp, h.eq, g.eq, binOp, eqGuard, Op.intArith])⟩
instance Step.sub_fit {k : IntKind} {a b : Int} {t u : TypeId} {x y : Operand} [h : Ev f x (.int k a)] [g : Ev f y (.int k b)] [e : Fits k (a - b)] : StepV P (.binOp .sub t x y u) ty f σ (.int k (a - b)) :=
  ⟨(by simp [execOp, h.eq, g.eq, binOp, eqGuard, Op.intArith, e.eq])⟩
instance (priority := low) Step.mul {k : IntKind} {a b : Int} {t u : TypeId} {x y : Operand} [h : Ev f x (.int k a)] [g : Ev f y (.int k b)] : StepV P (.binOp .mul t x y u) ty f σ (.int k (k.wrap (a * b))) :=
  ⟨(by simp [execOp, h.eq, g.eq, binOp, eqGuard, Op.intArith])⟩
instance Step.mul_fit {k : IntKind} {a b : Int} {t u : TypeId} {x y : Operand} [h : Ev f x (.int k a)] [g : Ev f y (.int k b)] [e : Fits k (a * b)] : StepV P (.binOp .mul t x y u) ty f σ (.int k (a * b)) :=
  ⟨(by simp [execOp, h.eq, g.eq, binOp, eqGuard, Op.intArith, e.eq])⟩
instance Step.lss {k : IntKind} {a b : Int} {bb : Bool} {t u : TypeId} {x y : Operand} [h : Ev f x (.int k a)] [g : Ev f y (.int k b)] [q : BV (decide (a < b)) bb] : StepV P (.binOp .lss t x y u) ty f σ (.bool bb) :=
  ⟨(by have hq := q.eq; subst hq; simp [execOp, h.eq, g.eq, binOp, eqGuard, Op.intCmp])⟩
instance Step.leq {k : IntKind} {a b : Int} {bb : Bool} {t u : TypeId} {x y : Operand} [h : Ev f x (.int k a)] [g : Ev f y (.int k b)] [q : BV (decide (a ≤ b)) bb] : StepV P (.binOp .leq t x y u) ty f σ (.bool bb) :=
  ⟨(by have hq := q.eq; subst hq; simp [execOp, h.eq, g.eq, binOp, eqGuard, Op.intCmp])⟩
instance Step.gtr {k : IntKind} {a b : Int} {bb : Bool} {t u : TypeId} {x y : Operand} [h : Ev f x (.int k a)] [g : Ev f y (.int k b)] [q : BV (decide (b < a)) bb] : StepV P (.binOp .gtr t x y u) ty f σ (.bool bb) :=
  ⟨(by have hq := q.eq; subst hq; simp [execOp, h.eq, g.eq, binOp, eqGuard, Op.intCmp])⟩
instance Step.geq {k : IntKind} {a b : Int} {bb : Bool} {t u : TypeId} {x y : Operand} [h : Ev f x (.int k a)] [g : Ev f y (.int k b)] [q : BV (decide (b ≤ a)) bb] : StepV P (.binOp .geq t x y u) ty f σ (.bool bb) :=
  ⟨(by have hq := q.eq; subst hq; simp [execOp, h.eq, g.eq, binOp, eqGuard, Op.intCmp])⟩

/-- the outcome of '==' at a type -/
class Eqv (P : Program) (t : TypeId) (x y : Value) (b : outParam Bool) : Prop where
  eq : ∀ (X Y : Operand) w, (do eqGuard .eql t X Y x y; binOp .eql t x y : Sem Value).run P w = .ok (.bool b) w
  ne : ∀ (X Y : Operand) w, (do eqGuard .neq t X Y x y; binOp .neq t x y : Sem Value).run P w = .ok (.bool (!b)) w
instance Eqv.int {t : TypeId} {k : IntKind} {a b : Int} {bb : Bool} [q : BV (decide (a = b)) bb] : Eqv P t (.int k a) (.int k b) bb :=
  ⟨fun X Y w => by have hq := q.eq; subst hq; simp [binOp, eqGuard, Op.intCmp]; rfl, fun X Y w => by have hq := q.eq; subst hq; simp [binOp, eqGuard, Op.intCmp]; rfl⟩
instance Eqv.bool {t : TypeId} {a b : Bool} {bb : Bool} [ut : U P t .bool] [q : BV (a == b) bb] : Eqv P t (.bool a) (.bool b) bb :=
  ⟨fun X Y w => by have hq := q.eq; subst hq; simp [binOp, eqGuard, run_equal_bool w t a b ut.h], fun X Y w => by have hq := q.eq; subst hq; simp [binOp, eqGuard, run_equal_bool w t a b ut.h, bne]⟩
instance Step.eql {v1 v2 : Value} {b : Bool} {t u : TypeId} {x y : Operand} [h : Ev f x v1] [g : Ev f y v2] [e : Eqv P t v1 v2 b] : StepV P (.binOp .eql t x y u) ty f σ (.bool b) :=
  ⟨(by
    simp only [execOp, h.eq, g.eq]
    rw [Sem.run_bind, e.eq x y σ.w]
    rfl)⟩
instance Step.neq {v1 v2 : Value} {b bb : Bool} {t u : TypeId} {x y : Operand} [h : Ev f x v1] [g : Ev f y v2] [e : Eqv P t v1 v2 b] [q : BV (!b) bb] : StepV P (.binOp .neq t x y u) ty f σ (.bool bb) :=
  ⟨(by
    have hq := q.eq; subst hq
    simp only [execOp, h.eq, g.eq]
    rw [Sem.run_bind, e.ne x y σ.w]
    rfl)⟩

/-- a new variable of the call's own -/
instance Step.box {x : Operand} {t : TypeId} {v : Value} {cs : Array Value} [h : Ev f x v] [c : Cells v cs] :
    Step P (.box t x) ty f σ (fun K _ => ∀ (σ' : St) (b : Nat), Nx σ σ' .no → NewAt σ b → Own σ' b t cs → K (.pointer (some ⟨b, 0, none⟩)) σ') :=
  ⟨fun K E hK => by
    obtain ⟨σ', hw, hn, hm, _, ho, _⟩ := st_new σ (.cells cs t) True
    have hr : (execOp (evo f) ⟨none, .box t x, ty, "", #[], none⟩).run P σ.w = .ok (.value (.pointer (some ⟨σ.w.heap.size, 0, none⟩))) (σ.w.alloc (.cells cs t)) := by
      simp [execOp, h.eq, Instr.box, newVar, newRow, newObj, c.eq]; rfl
    unfold OpW; rw [hr]
    exact ⟨σ', hw, hK σ' _ ⟨hn⟩ ⟨Nat.le_refl _⟩ ⟨hm.2 trivial, ho⟩⟩⟩
instance Step.alloc {t : TypeId} {cs : Array Value} [c : TZ P t cs] :
    Step P (.alloc t) ty f σ (fun K _ => ∀ (σ' : St) (b : Nat), Nx σ σ' .no → NewAt σ b → Own σ' b t cs → K (.pointer (some ⟨b, 0, none⟩)) σ') :=
  ⟨fun K E hK => by
    obtain ⟨σ', hw, hn, hm, _, ho, _⟩ := st_new σ (.cells cs t) True
    obtain ⟨i, z, hi, hz, hc⟩ := c.h
    have hr : (execOp (evo f) ⟨none, .alloc t, ty, "", #[], none⟩).run P σ.w = .ok (.value (.pointer (some ⟨σ.w.heap.size, 0, none⟩))) (σ.w.alloc (.cells cs t)) := by
      simp [execOp, Instr.alloc, zeroValue, typeInfo, hi, hz, newVar, newRow, newObj, hc]; rfl
    unfold OpW; rw [hr]
    exact ⟨σ', hw, hK σ' _ ⟨hn⟩ ⟨Nat.le_refl _⟩ ⟨hm.2 trivial, ho⟩⟩⟩
instance Step.load {x : Operand} {t t0 : TypeId} {b off : Nat} {cs : Array Value} {agg : Bool} {size bytes : Nat} {v : Value} [h : Ev f x (.pointer (some ⟨b, off, none⟩))] [o : Own σ b t0 cs] [ti : TI P t agg size bytes] [l : LoadV cs off size agg v] :
    StepV P (.load t x) ty f σ v :=
  ⟨(by simp [execOp, h.eq, Instr.loadAt, Instr.sureAddr, run_loadVar_cells ti (fun j _ => cell_own o.h _) l])⟩
instance Step.store {x y : Operand} {t t0 : TypeId} {b off : Nat} {cs vs cs' : Array Value} {agg : Bool} {size bytes : Nat} {v : Value} [h : Ev f x (.pointer (some ⟨b, off, none⟩))] [g : Ev f y v] [o : Own σ b t0 cs] [ti : TI P t agg size bytes]
    [c : Cells v vs] [zE : CSzE vs size] [l : PutV cs off vs cs'] :
    Step P (.store t x y) ty f σ (fun K _ => ∀ σ' : St, Nx σ σ' (.one b t0) → Own σ' b t0 cs' → K undef σ') :=
  ⟨fun K E hK => by
    have z := zE.z
    obtain ⟨σ', hw, hn, ho⟩ := st_set o cs'
    have hr : (execOp (evo f) ⟨none, .store t x y, ty, "", #[], none⟩).run P σ.w = .ok .skip (σ.w.setRow b cs') := by
      simp [execOp, h.eq, g.eq, Instr.storeAt, Instr.sureAddr, run_storeVar_own ti c z o.h l]
    unfold OpW; rw [hr]
    exact ⟨σ', hw, hK σ' ⟨hn⟩ ho⟩⟩

/-! calls -/
class CallRule (P : Program) (g : FuncId) (args : List Value) (σ : St) (S : outParam Tr) : Prop where
  sound : ∀ (K : KV) (E : KE), S K E → Calls P g args.toArray σ.w (fun
    | .returned v, w' => ∃ σ' : St, σ'.w = w' ∧ K v σ'
    | .panicked c, w' => ∃ σ' : St, σ'.w = w' ∧ E c σ'
    | .outgrown, _ => False)
class Fnc (P : Program) (g : FuncId) : Prop where
  run : ∀ args w, (callFunc g args).run P w = .ok (.enter g args) w
theorem Fnc.mk_ {P : Program} {g : FuncId} {fn : Func} {c : Code} (hf : P.funcs[g]? = some fn) (hname : (fn.name == "runtime.NumGoroutine") = false) (hb : fn.body = some c) : Fnc P g := by
  refine ⟨fun args w => ?_⟩
  have h1 : fn.name ≠ "runtime.NumGoroutine" := by simpa using hname
  simp [callFunc, hf, h1, hb]
/-- a function value, and how it is called -/
class ValRule (P : Program) (fv : Value) (args : List Value) (σ : St) (S : outParam Tr) : Prop where
  sound : ∀ (K : KV) (E : KE), S K E → ∃ fn first cap, fv = .func fn first cap ∧ ∃ g, fn = .func g ∧ Fnc P g ∧ Calls P g (first ++ args.toArray ++ cap) σ.w (fun
    | .returned v, w' => ∃ σ' : St, σ'.w = w' ∧ K v σ'
    | .panicked c, w' => ∃ σ' : St, σ'.w = w' ∧ E c σ'
    | .outgrown, _ => False)
instance ValRule.static {g : FuncId} {args : List Value} {S : Tr} [i : Fnc P g] [r : CallRule P g args σ S] : ValRule P (.func (.func g) #[] #[]) args σ S :=
  ⟨fun K E h => ⟨_, _, _, rfl, g, rfl, i, by simpa using r.sound K E h⟩⟩
class AppL (l m : List Value) (r : outParam (List Value)) : Prop where
  eq : l ++ m = r
instance AppL.nil {m : List Value} : AppL [] m m := ⟨rfl⟩
instance AppL.cons {v : Value} {l m r : List Value} [h : AppL l m r] : AppL (v :: l) m (v :: r) := ⟨by rw [List.cons_append, h.eq]⟩
instance ValRule.closure {g : FuncId} {args cap all : List Value} {S : Tr} [i : Fnc P g] [ap : AppL args cap all] [r : CallRule P g all σ S] : ValRule P (.func (.func g) #[] (List.toArray cap)) args σ S :=
  ⟨fun K E h => ⟨_, _, _, rfl, g, rfl, i, by have := r.sound K E h; rw [← ap.eq] at this; simpa using this⟩⟩
instance Step.call {x : Operand} {args : List Operand} {ts : Array TypeId} {fv : Value} {vs : List Value} {S : Tr} [h : Ev f x fv] [g : EvL f args vs] [r : ValRule P fv vs σ S] :
    Step P (.call { callee := .value x, args := args.toArray, argTypes := ts }) ty f σ S :=
  ⟨fun K E hS => by
    obtain ⟨fn, first, cap, rfl, gg, rfl, i, hc⟩ := r.sound K E hS
    have hr : (execOp (evo f) ⟨none, .call { callee := .value x, args := args.toArray, argTypes := ts }, ty, "", #[], none⟩).run P σ.w = .ok (.enter gg (first ++ vs.toArray ++ cap)) σ.w := by
      simp [execOp, resolve, h.eq, g.eq, Deferred.ofValue, invoke, i.run]
    unfold OpW; rw [hr]
    exact hc.mono fun e w' he => by cases e <;> exact he⟩

/-- a function without a Go body, that reads alone -/
class ExtRule (P : Program) (g : FuncId) (args : List Value) (σ : St) (v : outParam Value) : Prop where
  run : (callFunc g args.toArray).run P σ.w = .ok (.value v) σ.w
instance (priority := low) Step.extern {g : FuncId} {args : List Operand} {ts : Array TypeId} {vs : List Value} {v : Value} [e : EvL f args vs] [r : ExtRule P g vs σ v] :
    StepV P (.call { callee := .value (.func g), args := args.toArray, argTypes := ts }) ty f σ v :=
  ⟨(by simp [execOp, resolve, evo, e.eq, Deferred.ofValue, invoke, r.run])⟩

/-- len of a slice -/
instance Step.len_slice {x : Operand} {t e : TypeId} {A : Option Addr} {n c : Nat} [u : U P t (.slice e)] [h : Ev f x (.slice A n c)] :
    StepV P (.call { callee := .builtin .len, args := #[x], argTypes := #[t] }) ty f σ (.int .i64 n) :=
  ⟨(by simp [execOp, resolve, h.eq, invoke, builtin, Builtin.len_, run_underlying u.h, goInt])⟩
/-- the address of an array as a slice of it all -/
instance Step.slice_array {x : Operand} {t e : TypeId} {b m : Nat} {agg : Bool} {size bytes : Nat} [u : U P t (.array m e)] [ti : TI P e agg size bytes] [h : Ev f x (.pointer (some ⟨b, 0, none⟩))] :
    StepV P (.slice t x none none none) ty f σ (.slice (some ⟨b, 0, none⟩) m m) :=
  ⟨(by simp [execOp, h.eq, Instr.sliceAt, run_underlying u.h, Instr.sureAddr, Instr.sliceBounds, ti.run_sizeOf, add_at])⟩
end

/-! ### Entering a function, and coming back -/
def resQ (P : Program) (fn : Func) (K : KV) (E : KE) : PostQ
  | .normal, D, f, σ | .ret, D, f, σ => D = [] ∧ ∃ v, (∀ a : Act, fr a = f → (results fn a.tmps).run P σ.w = .ok v σ.w) ∧ ∃ σ' : St, σ'.w = σ.w ∧ K v σ'
  | .panic c, D, _, σ => D = [] ∧ E c σ
  | _, _, _, _ => False
def argsF (args : List Value) (n : Nat) : Fr := fun j => (args ++ List.replicate (n - args.length) undef).getD j undef
theorem calls_enter {P : Program} {g : FuncId} {fn : Func} {c : Code} {args : List Value} {σ : St} {K : KV} {E : KE} (hf : P.funcs[g]? = some fn) (hb : fn.body = some c) (n : Nat) (hn : fn.ntmps = n) (hl : Nat.ble args.length n = true)
    (h : WC P n (resQ P fn K E) c [] (argsF args n) σ) : Calls P g args.toArray σ.w (fun
    | .returned v, w' => ∃ σ' : St, σ'.w = w' ∧ K v σ'
    | .panicked c, w' => ∃ σ' : St, σ'.w = w' ∧ E c σ'
    | .outgrown, _ => False) := by
  have hl' : args.length ≤ n := Nat.le_of_ble_eq_true hl
  refine calls_of_wp hf hb (wp_mono (h.use ⟨args.toArray ++ Array.replicate (fn.ntmps - args.toArray.size) undef, []⟩ ?_ rfl ?_) ?_)
  · simp [hn]; omega
  · funext j
    simp [fr, argsF, hn, List.getD_eq_getElem?_getD, List.getElem?_append, Array.getElem?_append, List.getElem?_replicate, Array.getElem?_replicate]
  · rintro e a' _ ⟨hn', σ', rfl, hq⟩
    cases e with
    | normal => obtain ⟨hd, v, hr, hk⟩ := hq; exact ⟨hd, v, hr a' rfl, hk⟩
    | ret => obtain ⟨hd, v, hr, hk⟩ := hq; exact ⟨hd, v, hr a' rfl, hk⟩
    | panic ch => exact ⟨hq.1, σ', rfl, hq.2⟩
    | exit id => exact hq.elim
    | goto l => exact hq.elim
    | outgrown => exact hq.elim
class AtA (l : List Value) (j : Nat) (v : outParam Value) : Prop where
  eq : l[j]? = some v
instance AtA.zero {v : Value} {l : List Value} : AtA (v :: l) 0 v := ⟨rfl⟩
instance AtA.s1 {v u : Value} {l : List Value} {j : Nat} [h : AtA l j v] : AtA (u :: l) (j + 1) v := ⟨by simpa using h.eq⟩
instance At.args {l : List Value} {n j : Nat} {v : Value} [h : AtA l j v] : At (argsF l n) j v := ⟨by
  have h1 := h.eq
  have : j < l.length := (List.getElem?_eq_some_iff.1 h1).1
  simp [argsF, List.getD_eq_getElem?_getD, List.getElem?_append, this, (List.getElem?_eq_some_iff.1 h1).2]⟩
/-! how the end stands to the beginning -/
class Fresh0 (σ0 : St) (b : Nat) : Prop where
  ge : σ0.w.heap.size ≤ b
class FreshR (σ0 : St) (A : Option Addr) : Prop where
  ge : ∀ a, A = some a → σ0.w.heap.size ≤ a.block
instance Sub.refl {σ : St} : Sub σ σ := ⟨Below.refl _ _, fun _ h => h, fun _ _ h => h⟩
theorem Sub.size {σ0 σ : St} (h : Sub σ0 σ) : σ0.w.heap.size ≤ σ.w.heap.size := h.b.size
instance Fresh0.of {σ0 σ : St} {b : Nat} [h : NewAt σ b] [s : Sub σ0 σ] : Fresh0 σ0 b := ⟨Nat.le_trans s.size h.ge⟩
theorem Sub.step {σ0 σ σ' : St} {X : Xs} (n : NxP σ σ' X) (s : Sub σ0 σ) (hx : ∀ b, X.hits b → σ0.w.heap.size ≤ b) : Sub σ0 σ' := by
  refine ⟨s.b.trans ⟨n.os, n.tape, n.output, n.size, fun b hb => (n.own b (Nat.lt_of_lt_of_le hb s.size) (fun h => ?_)).1⟩, fun b hb => (n.own b (Nat.lt_of_lt_of_le (σ0.wf b hb) s.size) (fun h => ?_)).2 (s.m b hb), fun b hb hm => s.mm b hb (n.mm b (Nat.lt_of_lt_of_le hb s.size) hm)⟩
  · have := hx b h; omega
  · have := hx b h; have := σ0.wf b hb; omega
/-- what turned was not there at the beginning -/
class FreshX (σ0 : St) (X : Xs) : Prop where
  h : ∀ b, X.hits b → σ0.w.heap.size ≤ b
instance FreshX.no {σ0 : St} : FreshX σ0 .no := ⟨fun _ h => h.elim⟩
instance FreshX.one {σ0 : St} {b : Nat} {t : TypeId} [f : Fresh0 σ0 b] : FreshX σ0 (.one b t) := ⟨fun _ h => by cases h; exact f.ge⟩
instance FreshX.map {σ0 : St} {b : Nat} [f : Fresh0 σ0 b] : FreshX σ0 (.map b) := ⟨fun _ h => by cases h; exact f.ge⟩
instance FreshX.row {σ0 : St} {A : Option Addr} {t : TypeId} [f : FreshR σ0 A] : FreshX σ0 (.row A t) := ⟨fun _ h => by
  obtain ⟨a, ha, rfl⟩ := h; exact f.ge a ha⟩
instance FreshX.un {σ0 : St} {X Y : Xs} [f : FreshX σ0 X] [g : FreshX σ0 Y] : FreshX σ0 (.un X Y) := ⟨fun b h => h.elim (f.h b) (g.h b)⟩
instance (priority := low) Sub.step_ {σ0 σ σ' : St} {X : Xs} [n : Nx σ σ' X] [s : Sub σ0 σ] [f : FreshX σ0 X] : Sub σ0 σ' := s.step n.p f.h
theorem Sub.nx {σ0 σ : St} (s : Sub σ0 σ) : Nx σ0 σ .no := ⟨⟨s.b.os, s.b.tape, s.b.output, s.size, fun b hb _ => s.b.block b hb, s.mm, fun b hb _ => ⟨s.b.block b hb, s.m b⟩, trivial⟩⟩
/-- the same world, fewer blocks that may turn -/
class Wk (σ : outParam St) (σ' : St) : Prop where
  w : σ'.w = σ.w
  m : ∀ b, σ'.M b → σ.M b
/-- the same world, the blocks that may turn as at the beginning -/
class Bk (σ0 σ : outParam St) (σ' : St) : Prop where
  w : σ'.w = σ.w
  m : ∀ b, σ'.M b ↔ σ0.M b
  s : Sub σ0 σ
instance Wk.ofBk {σ0 σ σ' : St} [h : Bk σ0 σ σ'] : Wk σ σ' := ⟨h.w, fun b hb => h.s.m b ((h.m b).1 hb)⟩
theorem Sub.back {σ0 σ : St} (s : Sub σ0 σ) : ∃ σ' : St, σ'.w = σ.w ∧ Nx σ0 σ' .no ∧ Bk σ0 σ σ' :=
  ⟨⟨σ.w, σ0.M, fun b hb => Nat.lt_of_lt_of_le (σ0.wf b hb) s.size⟩, rfl, ⟨⟨s.b.os, s.b.tape, s.b.output, s.size, fun b hb _ => s.b.block b hb, fun _ _ h => h, fun b hb _ => ⟨s.b.block b hb, id⟩, trivial⟩⟩, ⟨rfl, fun _ => Iff.rfl, s⟩⟩

section
variable {P : Program} {fn : Func} {f : Fr} {σ σ0 : St} {K : KV} {E : KE}
theorem res1 {j : Nat} {v : Value} (hr : fn.results = #[.tmp j]) [h : At f j v] (hk : K v σ) : resQ P fn K E .ret [] f σ :=
  ⟨rfl, v, fun a ha => (by rw [results_tmp hr]; subst ha; have := h.eq; unfold fr at this; rw [this]), σ, rfl, hk⟩
theorem res2 {j k : Nat} {v u : Value} (hr : fn.results = #[.tmp j, .tmp k]) [h : At f j v] [g : At f k u] (hk : K (.tuple #[v, u]) σ) : resQ P fn K E .ret [] f σ :=
  ⟨rfl, _, fun a ha => (by rw [results_tmp2 hr]; subst ha; have := h.eq; have g' := g.eq; unfold fr at this g'; rw [this, g']), σ, rfl, hk⟩
/-- the end of a call that turned nothing that was there -/
theorem back1 {j : Nat} {v : Value} (hr : fn.results = #[.tmp j]) [h : At f j v] [s : Sub σ0 σ] (hk : ∀ σ', Nx σ0 σ' .no → Bk σ0 σ σ' → K v σ') : resQ P fn K E .ret [] f σ := by
  obtain ⟨σ', hw, hn, hwk⟩ := s.back
  refine ⟨rfl, v, fun a ha => ?_, σ', hw, hk σ' hn hwk⟩
  rw [results_tmp hr]; subst ha; have := h.eq; unfold fr at this; rw [this]
theorem back2 {j k : Nat} {v u : Value} (hr : fn.results = #[.tmp j, .tmp k]) [h : At f j v] [g : At f k u] [s : Sub σ0 σ] (hk : ∀ σ', Nx σ0 σ' .no → Bk σ0 σ σ' → K (.tuple #[v, u]) σ') : resQ P fn K E .ret [] f σ := by
  obtain ⟨σ', hw, hn, hwk⟩ := s.back
  refine ⟨rfl, _, fun a ha => ?_, σ', hw, hk σ' hn hwk⟩
  rw [results_tmp2 hr]; subst ha; have := h.eq; have g' := g.eq; unfold fr at this g'; rw [this, g']
end

theorem resQ_mk {P : Program} {fn : Func} {K : KV} {E : KE} {e : Exit} (he : e = .ret ∨ e = .normal) {f : Fr} {σ : St} {v : Value} (hr : ∀ a : Act, fr a = f → (results fn a.tmps).run P σ.w = .ok v σ.w) (hk : ∃ σ' : St, σ'.w = σ.w ∧ K v σ') : resQ P fn K E e [] f σ := by
  rcases he with rfl | rfl <;> exact ⟨rfl, v, hr, hk⟩
theorem resQ_panic {P : Program} {fn : Func} {K : KV} {E : KE} {c : List PanicEntry} {D : List Deferred} {f f' : Fr} {σ : St} (h : resQ P fn K E (.panic c) D f σ) : resQ P fn K E (.panic c) D f' σ := h
section
variable {P : Program} {fn : Func} {f : Fr} {σ : St} {K : KV} {E : KE}
theorem res0 (hr : fn.results = #[]) (hk : K (.tuple #[]) σ) : resQ P fn K E .ret [] f σ :=
  ⟨rfl, _, fun a ha => by rw [results_none hr], σ, rfl, hk⟩
theorem res0n (hr : fn.results = #[]) (hk : K (.tuple #[]) σ) : resQ P fn K E .normal [] f σ := res0 (E := E) hr hk
end

/-! ### The continuations, one step -/
section
variable {next : List Deferred → Fr → St → Prop} {Q : PostQ} {D : List Deferred} {f : Fr} {σ : St} {id id' : Nat} {c : List PanicEntry}
theorem then_n (h : next D f σ) : thenQ next Q .normal D f σ := h
theorem then_r (h : Q .ret D f σ) : thenQ next Q .ret D f σ := h
theorem then_e (h : Q (.exit id) D f σ) : thenQ next Q (.exit id) D f σ := h
theorem then_p (h : Q (.panic c) D f σ) : thenQ next Q (.panic c) D f σ := h
theorem block_n (h : Q .normal D f σ) : blockQ id Q .normal D f σ := h
theorem block_r (h : Q .ret D f σ) : blockQ id Q .ret D f σ := h
theorem block_p (h : Q (.panic c) D f σ) : blockQ id Q (.panic c) D f σ := h
theorem block_hit (h : Q .normal D f σ) : blockQ id Q (.exit id) D f σ := by simpa [blockQ] using h
theorem block_miss [k : NeN id' id] (h : Q (.exit id') D f σ) : blockQ id Q (.exit id') D f σ := by simpa [blockQ, k.ne] using h
variable {ι : Type} {Inv : ι → Fr → St → Prop} {μ : ι → Nat} {i : ι} {D' : List Deferred}
theorem loop_n (i' : ι) (h : Inv i' f σ) (hm : μ i' < μ i) : loopQ Inv μ i D Q .normal D f σ := ⟨rfl, i', h, hm⟩
theorem loop_x {W : Nat} {f0 : Fr} {σ0 : St} {X : Xs} (i' : ι) [a : AgreeG f W f0] (hx : Nx σ0 σ X) (h : Inv i' f σ) (hm : μ i' < μ i) : loopQA Inv μ W f0 σ0 X i D Q .normal D f σ := ⟨rfl, i', ⟨a.h, hx, h⟩, hm⟩
theorem loop_r (h : Q .ret D f σ) : loopQ Inv μ i D' Q .ret D f σ := h
theorem loop_e (h : Q (.exit id) D f σ) : loopQ Inv μ i D' Q (.exit id) D f σ := h
theorem loop_p (h : Q (.panic c) D f σ) : loopQ Inv μ i D' Q (.panic c) D f σ := h
end
attribute [irreducible] resQ
end Go.Proofs.Ytchdbmnikaacdaa

/- The engine, part 3: a region that draws its order, walked once in an order of our choice. Light operations (they yield one value in every later world) are taken as they come; a heavy one (a call, a new block, a store) where it alone can come.  -/
set_option linter.all false
namespace Go.Proofs.Ytchdbmnikaacdaa
open Go Go.RowKit

/-- 'w'' comes of w, nothing that was there has turned -/
def Later (w w' : World) : Prop := Below w.heap.size w w'
theorem Later.refl (w : World) : Later w w := Below.refl _ _
theorem Later.trans {a b c : World} (h : Later a b) (k : Later b c) : Later a c := Below.trans h (Below.mono k h.size)

section
variable {P : Program} {ops : Array Oper} {Q : Exit → Act → World → Prop} {mu : List Nat}

def YieldsX (P : Program) (ops : Array Oper) (k : Bool) (o : Oper) (v : Value) (a : Act) (w : World) : Prop :=
  (Region.wanted o (yielded ops a.tmps) = true ∧ ∀ w', k = true ∨ Later w w' → (execOp a.eval o).run P w' = .ok (.value v) w') ∨
  (Region.wanted o (yielded ops a.tmps) = false ∧ v = undef)
theorem YieldsX.later {k : Bool} {o : Oper} {v : Value} {a : Act} {w w' : World} (h : YieldsX P ops k o v a w) (l : k = true ∨ Later w w') : YieldsX P ops k o v a w' :=
  h.imp (fun ⟨h1, h2⟩ => ⟨h1, fun w'' l' => h2 w'' (l.elim .inl fun l => l'.imp id fun l' => l.trans l')⟩) id
theorem YieldsX.same {k : Bool} {o : Oper} {v : Value} {a a' : Act} {w : World} (h : YieldsX P ops k o v a w) (he : execOp a'.eval o = execOp a.eval o)
    (hw : Region.wanted o (yielded ops a'.tmps) = Region.wanted o (yielded ops a.tmps)) : YieldsX P ops k o v a' w := by
  unfold YieldsX at *
  rw [he, hw]; exact h
theorem YieldsX.wpOp {k : Bool} {i : Nat} {o : Oper} {v : Value} {a : Act} {w : World} (hi : ops[i]? = some o) (hy : YieldsX P ops k o v a w) {K : Act → World → Prop} (h : K (a.put o.dst v) w) : wpOp P ops Q i K a w := by
  unfold Go.wpOp
  simp only [hi]
  rcases hy with ⟨hw, hv⟩ | ⟨hw, rfl⟩
  · simp only [hw, if_true, Oper.wp, hv w (.inr (Later.refl w)), Oper.upon]; exact .inl h
  · simp only [hw, Bool.false_eq_true, if_false]; exact h

/-- whatever order is picked; what is no member of 'mu' turns nothing that was there -/
def wpAnyX (P : Program) (ops : Array Oper) (Q : Exit → Act → World → Prop) (mu : List Nat) : Nat → Array Bool → Act → World → Prop
  | 0, listed, a, w => Region.ready .any ops listed = [] ∧ Q .normal a w
  | fuel + 1, listed, a, w => (Region.ready .any ops listed = [] → Q .normal a w) ∧
      ∀ i ∈ Region.ready .any ops listed, wpOp P ops Q i (fun a' w' => (i ∉ mu → Later w w') ∧ wpAnyX P ops Q mu fuel (listed.setIfInBounds i true) a' w') a w
theorem wpAny_of_X : ∀ (fuel : Nat) (listed : Array Bool) (a : Act) (w : World), wpAnyX P ops Q mu fuel listed a w → wpAny P .any ops Q fuel listed a w
  | 0, _, _, _, h => h
  | fuel + 1, _, _, _, h => ⟨h.1, fun i hi => wpOp_mono (fun a' w' h' => wpAny_of_X fuel _ a' w' h'.2) (h.2 i hi)⟩

theorem wpOp_putX {k : Bool} {j : Nat} {oi oj : Oper} {v : Value} (hj : ops[j]? = some oj) (hap : oi.apart ops oj = true)
    (hsi : ∀ cs b, oi.op ≠ .select cs b) (hsj : ∀ cs b, oj.op ≠ .select cs b)
    (hQ : ∀ c a w, Q (.panic c) (a.put oi.dst v) w → Q (.panic c) a w) {K : Act → World → Prop} {a : Act} {w : World}
    (hk : k = true ∨ j ∉ mu) (hy : YieldsX P ops k oi v a w) (h : wpOp P ops Q j (fun a' w' => (j ∉ mu → Later w w') ∧ K a' w') (a.put oi.dst v) w) :
    wpOp P ops Q j (fun a' w' => (j ∉ mu → Later w w') ∧ YieldsX P ops k oi v a' w' ∧ K (a'.put oi.dst v) w') a w := by
  obtain ⟨h1, h2, h3⟩ := Oper.apart_spec hap
  have keep : ∀ (a : Act) (w' : World), YieldsX P ops k oi v a w → (j ∉ mu → Later w w') → ∀ u, YieldsX P ops k oi v (a.put oj.dst u) w' := fun a w' hy l u =>
    (hy.later (hk.imp id l)).same (execOp_put oi hsi a oj.dst u h3) (wanted_put oi a oj.dst u h3)
  have keepD : ∀ d, YieldsX P ops k oi v { a with defers := d :: a.defers } w := fun d => hy.same rfl rfl
  unfold wpOp at *
  simp only [hj] at *
  rw [wanted_put oj a oi.dst v h1] at h
  split
  · rename_i hw
    simp only [hw, if_true] at h
    rcases h with h | ⟨hasks, hlets⟩
    case inr => exact .inr ⟨by unfold Oper.asks at *; rw [execOp_put oj hsj a oi.dst v h1] at hasks; exact hasks, hlets⟩
    refine .inl ?_
    unfold Oper.wp at *
    rw [execOp_put oj hsj a oi.dst v h1] at h
    generalize (execOp a.eval oj).run P w = r at *
    cases r with
    | ok n w' =>
      cases n <;> simp only [Oper.upon] at h ⊢
      case value u => exact ⟨h.1, keep a _ hy h.1 u, by rw [← Act.put_comm a v u h2]; exact h.2⟩
      case skip => exact ⟨h.1, keep a _ hy h.1 _, by rw [← Act.put_comm a v undef h2]; exact h.2⟩
      case defer d =>
        refine ⟨h.1, keep _ _ (keepD d) h.1 _, ?_⟩
        rw [← Act.put_comm _ v undef h2, ← Act.put_defers]
        exact h.2
      case enter f args =>
        refine Calls.mono h fun e w'' he => ?_
        cases e with
        | returned u => exact ⟨he.1, keep a _ hy he.1 u, by rw [← Act.put_comm a v u h2]; exact he.2⟩
        | panicked c => exact hQ _ _ _ he
        | outgrown => exact he
      case row row args => exact Rows.mono h fun u w'' he => ⟨he.1, keep a _ hy he.1 u, by rw [← Act.put_comm a v u h2]; exact he.2⟩
    | halt x w' =>
      cases x <;> simp only [Oper.upon] at h ⊢
      case panic u => exact hQ _ _ _ h
  · rename_i hw
    simp only [hw] at h
    exact ⟨h.1, keep a _ hy h.1 _, by rw [← Act.put_comm a v undef h2]; exact h.2⟩

/-- j waits for i, perhaps through others -/
def depX (ops : Array Oper) : Nat → Nat → Nat → Bool
  | 0, _, _ => false
  | n + 1, j, i => match ops[j]? with
    | some oj => oj.after.any (fun e => Region.binds .any e && e.on == i) || oj.after.any (fun e => Region.binds .any e && depX ops n e.on i)
    | none => false
/-- what has come up has all that it waits for behind it -/
def Closed (ops : Array Oper) (listed : Array Bool) : Prop := ∀ j oj, ops[j]? = some oj → listed.getD j false = true → ∀ e ∈ oj.after, Region.binds .any e = true → listed.getD e.on false = true
theorem depX_unready {i : Nat} {listed : Array Bool} (hc : Closed ops listed) (hi : listed.getD i false = false) : ∀ (n j : Nat) (oj : Oper), ops[j]? = some oj → depX ops n j i = true → (∀ e ∈ oj.after, Region.binds .any e = true → listed.getD e.on false = true) → False
  | 0, _, _, _, h, _ => by simp [depX] at h
  | n + 1, j, oj, hj, h, hr => by
    simp only [depX, hj, Bool.or_eq_true, Array.any_eq_true', Bool.and_eq_true, beq_iff_eq] at h
    rcases h with ⟨e, he, hb, hon⟩ | ⟨e, he, hb, hd⟩
    · have := hr e he hb; rw [hon, hi] at this; cases this
    · have hl := hr e he hb
      cases ho : ops[e.on]? with
      | none => cases n <;> simp [depX, ho] at hd
      | some o => exact depX_unready hc hi n e.on o ho hd (hc e.on o ho hl)
theorem Closed.list {i : Nat} {listed : Array Bool} (hc : Closed ops listed) (hr : i ∈ Region.ready .any ops listed) : Closed ops (listed.setIfInBounds i true) := by
  intro j oj hj hl e he hb
  by_cases hji : j = i
  · subst hji
    obtain ⟨_, o, ho, hall⟩ := mem_ready.1 hr
    rw [hj] at ho; injection ho with ho; subst ho
    exact getD_set_true (hall e he hb)
  · rw [getD_set_ne false (Ne.symm hji)] at hl
    exact getD_set_true (hc j oj hj hl e he hb)
theorem Closed.none_ : Closed ops (Array.replicate ops.size false) := by
  intro j oj hj hl
  have hlt : j < ops.size := (Array.getElem?_eq_some_iff.1 hj).1
  simp [hlt] at hl
theorem unlisted {i : Nat} {listed : Array Bool} (h : listed.getD i true = false) : listed.getD i false = false := by
  rcases Nat.lt_or_ge i listed.size with h' | h'
  · simp [h'] at h ⊢; exact h
  · simp [Array.getElem?_eq_none h'] at h

theorem wpAnyX_first {k : Bool} {i : Nat} {oi : Oper} {v : Value} (hi : ops[i]? = some oi) (hsel : ∀ (j : Nat) (o : Oper) cs b, ops[j]? = some o → o.op ≠ .select cs b)
    (hQ : ∀ c a w, Q (.panic c) (a.put oi.dst v) w → Q (.panic c) a w) :
    ∀ (fuel : Nat) (listed : Array Bool) (a : Act) (w : World), Closed ops listed →
      (∀ j oj, ops[j]? = some oj → j ≠ i → listed.getD j true = false → depX ops 6 j i = true ∨ (oi.apart ops oj = true ∧ (k = true ∨ j ∉ mu))) →
      i ∈ Region.ready .any ops listed → YieldsX P ops k oi v a w →
      wpAnyX P ops Q mu fuel (listed.setIfInBounds i true) (a.put oi.dst v) w → wpAnyX P ops Q mu (fuel + 1) listed a w := by
  intro fuel
  induction fuel with
  | zero =>
    intro listed a w _ _ hr hy H
    refine ⟨fun h => (by rw [h] at hr; cases hr), fun j hj => ?_⟩
    by_cases hji : j = i
    · subst hji; exact hy.wpOp hi ⟨fun _ => Later.refl _, H⟩
    · have := ready_mono hj hji
      rw [H.1] at this
      cases this
  | succ fuel ih =>
    intro listed a w hcl hfree hr hy H
    refine ⟨fun h => (by rw [h] at hr; cases hr), fun j hj => ?_⟩
    by_cases hji : j = i
    · subst hji; exact hy.wpOp hi ⟨fun _ => Later.refl _, H⟩
    · have h1 := H.2 j (ready_mono hj hji)
      obtain ⟨hjun, oj, hoj, hall⟩ := mem_ready.1 hj
      obtain ⟨hap, hmu⟩ := (hfree j oj hoj hji hjun).resolve_left (fun hd => depX_unready hcl (unlisted (mem_ready.1 hr).1) 6 j oj hoj hd hall)
      have h2 := wpOp_putX hoj hap (fun cs b => hsel i oi cs b hi) (fun cs b => hsel j oj cs b hoj) hQ hmu hy h1
      have hfree' : ∀ q ok, ops[q]? = some ok → q ≠ i → (listed.setIfInBounds j true).getD q true = false → depX ops 6 q i = true ∨ (oi.apart ops ok = true ∧ (k = true ∨ q ∉ mu)) := fun q ok hk hki hun => by
        refine hfree q ok hk hki ?_
        by_cases hjk : j = q
        · subst hjk; exact hjun
        · rw [getD_set_ne true hjk] at hun; exact hun
      refine wpOp_mono (fun a' w' h3 => ⟨h3.1, ih (listed.setIfInBounds j true) a' w' (hcl.list hj) hfree' (ready_mono hr (Ne.symm hji)) h3.2.1 ?_⟩) h2
      rw [Array.setIfInBounds_comm _ _ hji]
      exact h3.2.2

/-- the order that we take: a light operation; a heavy one; two heavy ones, of which either may come first -/
inductive PT where
  | nil
  | p (i : Nat) (r : PT)
  | l (i : Nat) (r : PT)
  | h (i : Nat) (r : PT)
  | f (i : Nat) (r : PT) (j : Nat) (s : PT)
  | g (i : Nat) (r : PT) (j : Nat) (s : PT) (k : Nat) (t : PT)
def PT.len : PT → Nat
  | .nil => 0
  | .p _ r => r.len + 1
  | .l _ r => r.len + 1
  | .h _ r => r.len + 1
  | .f _ r _ s => max r.len s.len + 1
  | .g _ r _ s _ t => max (max r.len s.len) t.len + 1
/-- nothing that is still to come stands in the way of i -/
def freeX (ops : Array Oper) (mu : List Nat) (pure : Bool) (listed : Array Bool) (i : Nat) : Bool :=
  match ops[i]? with
  | none => false
  | some oi => (List.range ops.size).all fun j => j == i || listed.getD j true || match ops[j]? with
      | some oj => (oi.apart ops oj && (pure || !mu.contains j)) || depX ops 6 j i
      | none => true
theorem freeX_spec {pure : Bool} {i : Nat} {oi : Oper} {listed : Array Bool} (hi : ops[i]? = some oi) (h : freeX ops mu pure listed i = true) (j : Nat) (oj : Oper) (hj : ops[j]? = some oj) (hne : j ≠ i) (hun : listed.getD j true = false) :
    depX ops 6 j i = true ∨ (oi.apart ops oj = true ∧ (pure = true ∨ j ∉ mu)) := by
  simp only [freeX, hi, List.all_eq_true, List.mem_range] at h
  have h1 := h j (Array.getElem?_eq_some_iff.1 hj).1
  simp only [hj, Bool.or_eq_true, beq_iff_eq, hne, false_or, hun, Bool.false_eq_true, Bool.and_eq_true] at h1
  rcases h1 with ⟨h1, h2⟩ | h1
  · exact .inr ⟨h1, h2.imp id (fun h => by simpa using h)⟩
  · exact .inl h1
/-- .. checked -/
def chkX (ops : Array Oper) (mu : List Nat) : PT → Array Bool → Bool
  | .nil, listed => (Region.ready .any ops listed).isEmpty
  | .p i r, listed => (Region.ready .any ops listed).contains i && freeX ops mu true listed i && chkX ops mu r (listed.setIfInBounds i true)
  | .l i r, listed => (Region.ready .any ops listed).contains i && freeX ops mu false listed i && chkX ops mu r (listed.setIfInBounds i true)
  | .h i r, listed => (Region.ready .any ops listed == [i]) && chkX ops mu r (listed.setIfInBounds i true)
  | .f i r j s, listed => (Region.ready .any ops listed == [i, j]) && (chkX ops mu r (listed.setIfInBounds i true) && chkX ops mu s (listed.setIfInBounds j true))
  | .g i r j s k t, listed => (Region.ready .any ops listed == [i, j, k]) && (chkX ops mu r (listed.setIfInBounds i true) && (chkX ops mu s (listed.setIfInBounds j true) && chkX ops mu t (listed.setIfInBounds k true)))

def wpPerm (P : Program) (ops : Array Oper) (Q : Exit → Act → World → Prop) (mu : List Nat) : PT → Act → World → Prop
  | .nil, a, w => Q .normal a w
  | .p i r, a, w => ∃ o v, ops[i]? = some o ∧ YieldsX P ops true o v a w ∧ (∀ c a w, Q (.panic c) (a.put o.dst v) w → Q (.panic c) a w) ∧ wpPerm P ops Q mu r (a.put o.dst v) w
  | .l i r, a, w => ∃ o v, ops[i]? = some o ∧ YieldsX P ops false o v a w ∧ (∀ c a w, Q (.panic c) (a.put o.dst v) w → Q (.panic c) a w) ∧ wpPerm P ops Q mu r (a.put o.dst v) w
  | .h i r, a, w => wpOp P ops Q i (fun a' w' => (i ∉ mu → Later w w') ∧ wpPerm P ops Q mu r a' w') a w
  | .f i r j s, a, w => wpOp P ops Q i (fun a' w' => (i ∉ mu → Later w w') ∧ wpPerm P ops Q mu r a' w') a w ∧ wpOp P ops Q j (fun a' w' => (j ∉ mu → Later w w') ∧ wpPerm P ops Q mu s a' w') a w
  | .g i r j s k t, a, w => wpOp P ops Q i (fun a' w' => (i ∉ mu → Later w w') ∧ wpPerm P ops Q mu r a' w') a w ∧ wpOp P ops Q j (fun a' w' => (j ∉ mu → Later w w') ∧ wpPerm P ops Q mu s a' w') a w ∧ wpOp P ops Q k (fun a' w' => (k ∉ mu → Later w w') ∧ wpPerm P ops Q mu t a' w') a w

theorem any_of_perm (hsel : Region.noSelect ops = true) : ∀ (perm : PT) (fuel : Nat) (listed : Array Bool) (a : Act) (w : World), Closed ops listed → chkX ops mu perm listed = true → perm.len ≤ fuel →
    wpPerm P ops Q mu perm a w → wpAnyX P ops Q mu fuel listed a w
  | .nil, 0, listed, a, w, _, hc, _, h => ⟨by simpa [chkX] using hc, h⟩
  | .nil, fuel + 1, listed, a, w, _, hc, _, h => by
    have : Region.ready .any ops listed = [] := by simpa [chkX] using hc
    exact ⟨fun _ => h, by rw [this]; simp⟩
  | .p i r, fuel + 1, listed, a, w, hcl, hc, hl, ⟨o, v, ho, hy, hq, h⟩ => by
    simp only [chkX, Bool.and_eq_true] at hc
    obtain ⟨⟨h1, h2⟩, h4⟩ := hc
    have hr : i ∈ Region.ready .any ops listed := by simpa using h1
    exact wpAnyX_first ho (Region.noSelect_spec hsel) hq fuel listed a w hcl (freeX_spec ho h2) hr hy (any_of_perm hsel r fuel _ _ _ (hcl.list hr) h4 (by simpa [PT.len] using hl) h)
  | .l i r, fuel + 1, listed, a, w, hcl, hc, hl, ⟨o, v, ho, hy, hq, h⟩ => by
    simp only [chkX, Bool.and_eq_true] at hc
    obtain ⟨⟨h1, h2⟩, h4⟩ := hc
    have hr : i ∈ Region.ready .any ops listed := by simpa using h1
    exact wpAnyX_first ho (Region.noSelect_spec hsel) hq fuel listed a w hcl (freeX_spec ho h2) hr hy (any_of_perm hsel r fuel _ _ _ (hcl.list hr) h4 (by simpa [PT.len] using hl) h)
  | .h i r, fuel + 1, listed, a, w, hcl, hc, hl, h => by
    simp only [chkX, Bool.and_eq_true, beq_iff_eq] at hc
    refine ⟨fun e => (by rw [hc.1] at e; cases e), fun j hj => ?_⟩
    have hcl' := hcl.list hj
    rw [hc.1] at hj
    simp only [List.mem_singleton] at hj
    subst hj
    exact wpOp_mono (fun a' w' h' => ⟨h'.1, any_of_perm hsel r fuel _ _ _ hcl' hc.2 (by simpa [PT.len] using hl) h'.2⟩) h
  | .f i r j s, fuel + 1, listed, a, w, hcl, hc, hl, ⟨h, g⟩ => by
    simp only [chkX, Bool.and_eq_true, beq_iff_eq] at hc
    simp only [PT.len] at hl
    refine ⟨fun e => (by rw [hc.1] at e; cases e), fun k hk => ?_⟩
    have hcl' := hcl.list hk
    rw [hc.1] at hk
    simp only [List.mem_cons, List.not_mem_nil, or_false] at hk
    rcases hk with rfl | rfl
    · exact wpOp_mono (fun a' w' h' => ⟨h'.1, any_of_perm hsel r fuel _ _ _ hcl' hc.2.1 (by omega) h'.2⟩) h
    · exact wpOp_mono (fun a' w' h' => ⟨h'.1, any_of_perm hsel s fuel _ _ _ hcl' hc.2.2 (by omega) h'.2⟩) g
  | .g i r j s k t, fuel + 1, listed, a, w, hcl, hc, hl, ⟨h, g, g2⟩ => by
    simp only [chkX, Bool.and_eq_true, beq_iff_eq] at hc
    simp only [PT.len] at hl
    refine ⟨fun e => (by rw [hc.1] at e; cases e), fun q hk => ?_⟩
    have hcl' := hcl.list hk
    rw [hc.1] at hk
    simp only [List.mem_cons, List.not_mem_nil, or_false] at hk
    rcases hk with rfl | rfl | rfl
    · exact wpOp_mono (fun a' w' h' => ⟨h'.1, any_of_perm hsel r fuel _ _ _ hcl' hc.2.1 (by omega) h'.2⟩) h
    · exact wpOp_mono (fun a' w' h' => ⟨h'.1, any_of_perm hsel s fuel _ _ _ hcl' hc.2.2.1 (by omega) h'.2⟩) g
    · exact wpOp_mono (fun a' w' h' => ⟨h'.1, any_of_perm hsel t fuel _ _ _ hcl' hc.2.2.2 (by omega) h'.2⟩) g2
  | .g i r j s k t, 0, _, _, _, _, _, hl, _ => by simp [PT.len] at hl
  | .p i r, 0, _, _, _, _, _, hl, _ => by simp [PT.len] at hl
  | .l i r, 0, _, _, _, _, _, hl, _ => by simp [PT.len] at hl
  | .h i r, 0, _, _, _, _, _, hl, _ => by simp [PT.len] at hl
  | .f i r j s, 0, _, _, _, _, _, hl, _ => by simp [PT.len] at hl
end

/-! ### The judgement -/
def WX (P : Program) (ops : Array Oper) (n : Nat) (Q : PostQ) (mu : List Nat) (l : PT) (D : List Deferred) (f : Fr) (σ : St) : Prop :=
  ∀ a : Act, a.tmps.size = n → a.defers = D → fr a = f → wpPerm P ops (LQ n Q) mu l a σ.w

class PFree (Q : PostQ) : Prop where
  h : ∀ c D f f' σ, Q (.panic c) D f σ → Q (.panic c) D f' σ
instance PFree.res {P : Program} {fn : Func} {K : KV} {E : KE} : PFree (resQ P fn K E) := ⟨fun _ _ _ _ _ h => resQ_panic h⟩
instance PFree.then_ {next : List Deferred → Fr → St → Prop} {Q : PostQ} [i : PFree Q] : PFree (thenQ next Q) := ⟨fun c D f f' σ h => i.h c D f f' σ h⟩
instance PFree.block {id : Nat} {Q : PostQ} [i : PFree Q] : PFree (blockQ id Q) := ⟨fun c D f f' σ h => i.h c D f f' σ h⟩
instance PFree.loop {ι : Type} {Inv : ι → Fr → St → Prop} {μ : ι → Nat} {k : ι} {D : List Deferred} {Q : PostQ} [i : PFree Q] : PFree (loopQ Inv μ k D Q) := ⟨fun c D f f' σ h => i.h c D f f' σ h⟩

instance PFree.loopA {ι : Type} {Inv : ι → Fr → St → Prop} {μ : ι → Nat} {W : Nat} {f0 : Fr} {σ0 : St} {X : Xs} {k : ι} {D : List Deferred} {Q : PostQ} [i : PFree Q] : PFree (loopQA Inv μ W f0 σ0 X k D Q) := ⟨fun c D f f' σ h => i.h c D f f' σ h⟩

/-- an operation that yields v, whatever is made meanwhile -/
class Light (P : Program) (op : Op) (ty : TypeId) (f : Fr) (σ : St) (v : outParam Value) : Prop where
  run : ∀ w', Later σ.w w' → (execOp (evo f) ⟨none, op, ty, "", #[], none⟩).run P w' = .ok (.value v) w'
theorem nx_later {σ : St} {w' : World} (h : Later σ.w w') : ∃ σ' : St, σ'.w = w' ∧ NxP σ σ' .no :=
  ⟨⟨w', σ.M, fun b hb => Nat.lt_of_lt_of_le (σ.wf b hb) h.size⟩, rfl, ⟨h.os, h.tape, h.output, h.size, fun b hb _ => h.block b hb, fun _ _ h => h, fun b hb _ => ⟨h.block b hb, id⟩, trivial⟩⟩
instance Light.of {P : Program} {op : Op} {ty : TypeId} {f : Fr} {σ : St} {v : Value} [h : ∀ (σ' : St) [Nx σ σ' .no], StepV P op ty f σ' v] : Light P op ty f σ v :=
  ⟨fun w' hl => by
    obtain ⟨σ', rfl, hn⟩ := nx_later hl
    exact (@h σ' ⟨hn⟩).run⟩
class Ext (σ σ' : St) : Prop where
  l : Later σ.w σ'.w
instance Ext.refl {σ : St} : Ext σ σ := ⟨Later.refl _⟩
instance Ext.no {σ σ' : St} [h : Nx σ σ' .no] : Ext σ σ' := ⟨⟨h.p.os, h.p.tape, h.p.output, h.p.size, fun b hb => (h.p.own b hb id).1⟩⟩

section
variable {P : Program} {ops : Array Oper} {n : Nat} {Q : PostQ} {mu : List Nat} {l : PT} {D : List Deferred} {f : Fr} {σ : St}
theorem WX.nil (h : Q .normal D f σ) : WX P ops n Q mu .nil D f σ := by
  rintro a hn rfl rfl
  exact ⟨hn, σ, rfl, h⟩
theorem WX.pure {i d : Nat} {op : Op} {ty : TypeId} {pos : String} {aft : Array Edge} (ho : ops[i]? = some ⟨some d, op, ty, pos, aft, none⟩) {v : Value} [pf : PFree Q] (hd : Nat.blt d n = true) (k : ∀ σ' : St, StepV P op ty f σ' v)
    (h : WX P ops n Q mu l D (upd f d v) σ) : WX P ops n Q mu (.p i l) D f σ := by
  rintro a hn rfl rfl
  refine ⟨_, v, ho, .inl ⟨rfl, fun w' hl => ?_⟩, ?_, h _ (by rw [size_put, hn]) defers_put (fr_put (by rw [hn]; exact lt_of_blt hd))⟩
  · rw [eval_fr, execOp_shape]; exact (k ⟨w', fun _ => False, nofun⟩).run
  · rintro c a' w' ⟨hs, σ', rfl, hq⟩
    exact ⟨by rwa [size_put] at hs, σ', rfl, pf.h _ _ _ _ _ (by rwa [defers_put] at hq)⟩
theorem WX.light {i d : Nat} {op : Op} {ty : TypeId} {pos : String} {aft : Array Edge} (ho : ops[i]? = some ⟨some d, op, ty, pos, aft, none⟩) {v : Value} [pf : PFree Q] (hd : Nat.blt d n = true) (k : ∀ σ' : St, Nx σ σ' .no → StepV P op ty f σ' v)
    (h : WX P ops n Q mu l D (upd f d v) σ) : WX P ops n Q mu (.l i l) D f σ := by
  rintro a hn rfl rfl
  refine ⟨_, v, ho, .inl ⟨rfl, fun w' hl => ?_⟩, ?_, h _ (by rw [size_put, hn]) defers_put (fr_put (by rw [hn]; exact lt_of_blt hd))⟩
  · rw [eval_fr, execOp_shape]; exact (Light.of (h := fun σ' h => k σ' h)).run w' (hl.resolve_left (by simp))
  · rintro c a' w' ⟨hs, σ', rfl, hq⟩
    exact ⟨by rwa [size_put] at hs, σ', rfl, pf.h _ _ _ _ _ (by rwa [defers_put] at hq)⟩
theorem WX.heavy {i d : Nat} {op : Op} {ty : TypeId} {pos : String} {aft : Array Edge} (ho : ops[i]? = some ⟨some d, op, ty, pos, aft, none⟩) {S : Tr} [k : Step P op ty f σ S] (hd : Nat.blt d n = true)
    (h : S (fun v σ' => (i ∉ mu → Ext σ σ') ∧ WX P ops n Q mu l D (upd f d v) σ') (fun c σ' => Q (.panic c) D f σ')) : WX P ops n Q mu (.h i l) D f σ := by
  rintro a hn rfl rfl
  unfold wpPerm wpOp
  simp only [ho, Region.wanted, if_true]
  refine .inl (Oper.wp_of_OpW (E := fun c w' => ∃ σ' : St, σ'.w = w' ∧ Q (.panic c) a.defers (fr a) σ') ?_ (fun c w' hc => ⟨hn, hc⟩))
  refine (k.sound _ _ h).mono ?_ (fun _ _ h => h)
  rintro v _ ⟨σ', rfl, he, h'⟩
  exact ⟨fun hm => (he hm).l, h' _ (by rw [size_put, hn]) defers_put (fr_put (by rw [hn]; exact lt_of_blt hd))⟩
theorem WX.heavy0 {i : Nat} {op : Op} {ty : TypeId} {pos : String} {aft : Array Edge} (ho : ops[i]? = some ⟨none, op, ty, pos, aft, none⟩) {S : Tr} [k : Step P op ty f σ S]
    (h : S (fun v σ' => (i ∉ mu → Ext σ σ') ∧ WX P ops n Q mu l D f σ') (fun c σ' => Q (.panic c) D f σ')) : WX P ops n Q mu (.h i l) D f σ := by
  rintro a hn rfl rfl
  unfold wpPerm wpOp
  simp only [ho, Region.wanted, if_true]
  refine .inl (Oper.wp_of_OpW (E := fun c w' => ∃ σ' : St, σ'.w = w' ∧ Q (.panic c) a.defers (fr a) σ') ?_ (fun c w' hc => ⟨hn, hc⟩))
  refine (k.sound _ _ h).mono ?_ (fun _ _ h => h)
  rintro v _ ⟨σ', rfl, he, h'⟩
  exact ⟨fun hm => (he hm).l, h' _ (by rw [size_put, hn]) defers_put fr_put_none⟩
/-- the same operations, guarded -/
theorem WX.pure_hit {i d g t : Nat} {b : Bool} {op : Op} {ty : TypeId} {pos : String} {aft : Array Edge} (ho : ops[i]? = some ⟨some d, op, ty, pos, aft, some (g, b)⟩) (ht : (ops[g]?).bind (·.dst) = some t) (hl : Nat.blt t n = true) [hg : At f t (.bool b)]
    {v : Value} [pf : PFree Q] (hd : Nat.blt d n = true) (k : ∀ σ' : St, StepV P op ty f σ' v) (h : WX P ops n Q mu l D (upd f d v) σ) : WX P ops n Q mu (.p i l) D f σ := by
  rintro a hn rfl rfl
  have hy := yielded_at ht (by rw [hn]; exact lt_of_blt hl) hg.eq
  refine ⟨_, v, ho, .inl ⟨by simp [Region.wanted, hy], fun w' hl => ?_⟩, ?_, h _ (by rw [size_put, hn]) defers_put (fr_put (by rw [hn]; exact lt_of_blt hd))⟩
  · rw [eval_fr, execOp_shape]; exact (k ⟨w', fun _ => False, nofun⟩).run
  · rintro c a' w' ⟨hs, σ', rfl, hq⟩
    exact ⟨by rwa [size_put] at hs, σ', rfl, pf.h _ _ _ _ _ (by rwa [defers_put] at hq)⟩
theorem WX.pure_miss {i d g t : Nat} {b b' : Bool} {op : Op} {ty : TypeId} {pos : String} {aft : Array Edge} (ho : ops[i]? = some ⟨some d, op, ty, pos, aft, some (g, b)⟩) (ht : (ops[g]?).bind (·.dst) = some t) (hl : Nat.blt t n = true) [hg : At f t (.bool b')]
    (hb : (b' == b) = false) [pf : PFree Q] (hd : Nat.blt d n = true) (h : WX P ops n Q mu l D (upd f d undef) σ) : WX P ops n Q mu (.p i l) D f σ := by
  rintro a hn rfl rfl
  have hy := yielded_at ht (by rw [hn]; exact lt_of_blt hl) hg.eq
  have hne : (some b' == some b) = false := by simpa using hb
  refine ⟨_, undef, ho, .inr ⟨by simp only [Region.wanted, hy, hne], rfl⟩, ?_, h _ (by rw [size_put, hn]) defers_put (fr_put (by rw [hn]; exact lt_of_blt hd))⟩
  rintro c a' w' ⟨hs, σ', rfl, hq⟩
  exact ⟨by rwa [size_put] at hs, σ', rfl, pf.h _ _ _ _ _ (by rwa [defers_put] at hq)⟩
theorem WX.light_hit {i d g t : Nat} {b : Bool} {op : Op} {ty : TypeId} {pos : String} {aft : Array Edge} (ho : ops[i]? = some ⟨some d, op, ty, pos, aft, some (g, b)⟩) (ht : (ops[g]?).bind (·.dst) = some t) (hl : Nat.blt t n = true) [hg : At f t (.bool b)]
    {v : Value} [pf : PFree Q] (hd : Nat.blt d n = true) (k : ∀ σ' : St, Nx σ σ' .no → StepV P op ty f σ' v) (h : WX P ops n Q mu l D (upd f d v) σ) : WX P ops n Q mu (.l i l) D f σ := by
  rintro a hn rfl rfl
  have hy := yielded_at ht (by rw [hn]; exact lt_of_blt hl) hg.eq
  refine ⟨_, v, ho, .inl ⟨by simp [Region.wanted, hy], fun w' hl => ?_⟩, ?_, h _ (by rw [size_put, hn]) defers_put (fr_put (by rw [hn]; exact lt_of_blt hd))⟩
  · rw [eval_fr, execOp_shape]; exact (Light.of (h := fun σ' h => k σ' h)).run w' (hl.resolve_left (by simp))
  · rintro c a' w' ⟨hs, σ', rfl, hq⟩
    exact ⟨by rwa [size_put] at hs, σ', rfl, pf.h _ _ _ _ _ (by rwa [defers_put] at hq)⟩
theorem WX.light_miss {i d g t : Nat} {b b' : Bool} {op : Op} {ty : TypeId} {pos : String} {aft : Array Edge} (ho : ops[i]? = some ⟨some d, op, ty, pos, aft, some (g, b)⟩) (ht : (ops[g]?).bind (·.dst) = some t) (hl : Nat.blt t n = true) [hg : At f t (.bool b')]
    (hb : (b' == b) = false) [pf : PFree Q] (hd : Nat.blt d n = true) (h : WX P ops n Q mu l D (upd f d undef) σ) : WX P ops n Q mu (.l i l) D f σ := by
  rintro a hn rfl rfl
  have hy := yielded_at ht (by rw [hn]; exact lt_of_blt hl) hg.eq
  have hne : (some b' == some b) = false := by simpa using hb
  refine ⟨_, undef, ho, .inr ⟨by simp only [Region.wanted, hy, hne], rfl⟩, ?_, h _ (by rw [size_put, hn]) defers_put (fr_put (by rw [hn]; exact lt_of_blt hd))⟩
  rintro c a' w' ⟨hs, σ', rfl, hq⟩
  exact ⟨by rwa [size_put] at hs, σ', rfl, pf.h _ _ _ _ _ (by rwa [defers_put] at hq)⟩
theorem WX.heavy_hit {i d g t : Nat} {b : Bool} {op : Op} {ty : TypeId} {pos : String} {aft : Array Edge} (ho : ops[i]? = some ⟨some d, op, ty, pos, aft, some (g, b)⟩) (ht : (ops[g]?).bind (·.dst) = some t) (hl : Nat.blt t n = true) [hg : At f t (.bool b)]
    {S : Tr} [k : Step P op ty f σ S] (hd : Nat.blt d n = true)
    (h : S (fun v σ' => (i ∉ mu → Ext σ σ') ∧ WX P ops n Q mu l D (upd f d v) σ') (fun c σ' => Q (.panic c) D f σ')) : WX P ops n Q mu (.h i l) D f σ := by
  rintro a hn rfl rfl
  have hy := yielded_at ht (by rw [hn]; exact lt_of_blt hl) hg.eq
  unfold wpPerm wpOp
  simp only [ho, Region.wanted, hy, BEq.rfl, if_true]
  refine .inl (Oper.wp_of_OpW (E := fun c w' => ∃ σ' : St, σ'.w = w' ∧ Q (.panic c) a.defers (fr a) σ') ?_ (fun c w' hc => ⟨hn, hc⟩))
  refine (k.sound _ _ h).mono ?_ (fun _ _ h => h)
  rintro v _ ⟨σ', rfl, he, h'⟩
  exact ⟨fun hm => (he hm).l, h' _ (by rw [size_put, hn]) defers_put (fr_put (by rw [hn]; exact lt_of_blt hd))⟩
theorem WX.heavy_miss {i d g t : Nat} {b b' : Bool} {op : Op} {ty : TypeId} {pos : String} {aft : Array Edge} (ho : ops[i]? = some ⟨some d, op, ty, pos, aft, some (g, b)⟩) (ht : (ops[g]?).bind (·.dst) = some t) (hl : Nat.blt t n = true) [hg : At f t (.bool b')]
    (hb : (b' == b) = false) (hd : Nat.blt d n = true) (h : WX P ops n Q mu l D (upd f d undef) σ) : WX P ops n Q mu (.h i l) D f σ := by
  rintro a hn rfl rfl
  have hy := yielded_at ht (by rw [hn]; exact lt_of_blt hl) hg.eq
  have hne : (some b' == some b) = false := by simpa using hb
  unfold wpPerm wpOp
  simp only [ho, Region.wanted, hy, hne, Bool.false_eq_true, if_false]
  exact ⟨fun _ => Later.refl _, h _ (by rw [size_put, hn]) defers_put (fr_put (by rw [hn]; exact lt_of_blt hd))⟩
theorem WX.partP {i g t : Nat} {b c : Bool} {d : Option Nat} {op : Op} {ty : TypeId} {pos : String} {aft : Array Edge} (_ho : ops[i]? = some ⟨d, op, ty, pos, aft, some (g, b)⟩) (_ht : (ops[g]?).bind (·.dst) = some t) [h : At f t (.bool c)]
    (h1 : c = true → WX P ops n Q mu (.p i l) D (upd f t (.bool true)) σ) (h2 : c = false → WX P ops n Q mu (.p i l) D (upd f t (.bool false)) σ) : WX P ops n Q mu (.p i l) D f σ := by
  cases c
  · have := h2 rfl; rwa [upd_self h.eq] at this
  · have := h1 rfl; rwa [upd_self h.eq] at this

theorem WX.partL {i g t : Nat} {b c : Bool} {d : Option Nat} {op : Op} {ty : TypeId} {pos : String} {aft : Array Edge} (_ho : ops[i]? = some ⟨d, op, ty, pos, aft, some (g, b)⟩) (_ht : (ops[g]?).bind (·.dst) = some t) [h : At f t (.bool c)]
    (h1 : c = true → WX P ops n Q mu (.l i l) D (upd f t (.bool true)) σ) (h2 : c = false → WX P ops n Q mu (.l i l) D (upd f t (.bool false)) σ) : WX P ops n Q mu (.l i l) D f σ := by
  cases c
  · have := h2 rfl; rwa [upd_self h.eq] at this
  · have := h1 rfl; rwa [upd_self h.eq] at this

theorem WX.partH {i g t : Nat} {b c : Bool} {d : Option Nat} {op : Op} {ty : TypeId} {pos : String} {aft : Array Edge} (_ho : ops[i]? = some ⟨d, op, ty, pos, aft, some (g, b)⟩) (_ht : (ops[g]?).bind (·.dst) = some t) [h : At f t (.bool c)]
    (h1 : c = true → WX P ops n Q mu (.h i l) D (upd f t (.bool true)) σ) (h2 : c = false → WX P ops n Q mu (.h i l) D (upd f t (.bool false)) σ) : WX P ops n Q mu (.h i l) D f σ := by
  cases c
  · have := h2 rfl; rwa [upd_self h.eq] at this
  · have := h1 rfl; rwa [upd_self h.eq] at this

theorem WX.fork {i j : Nat} {r s : PT} (h1 : WX P ops n Q mu (.h i r) D f σ) (h2 : WX P ops n Q mu (.h j s) D f σ) : WX P ops n Q mu (.f i r j s) D f σ :=
  fun a hn hD hf => ⟨h1 a hn hD hf, h2 a hn hD hf⟩

theorem WX.fork3 {i j k : Nat} {r s t : PT} (h1 : WX P ops n Q mu (.h i r) D f σ) (h2 : WX P ops n Q mu (.h j s) D f σ) (h3 : WX P ops n Q mu (.h k t) D f σ) : WX P ops n Q mu (.g i r j s k t) D f σ :=
  fun a hn hD hf => ⟨h1 a hn hD hf, h2 a hn hD hf, h3 a hn hD hf⟩
/-- **A region that draws, in an order of our choice.** -/
theorem WC.draw {id : Nat} (mu : List Nat) (perm : PT) (hm : P.follows .mixedOrders = true) (hc : (Region.noSelect ops && chkX ops mu perm (Array.replicate ops.size false) && Nat.ble perm.len ops.size) = true)
    (h : ∀ σ' : St, Nx σ σ' .no → WX P ops n Q mu perm D f σ') : WC P n Q (.region id ops true) D f σ := by
  simp only [Bool.and_eq_true] at hc
  obtain ⟨⟨hsel, hc⟩, hl⟩ := hc
  refine WC.of fun a hn hD hf => ?_
  obtain ⟨σ', hw, hn'⟩ := st_drew σ (σ.w.drawn + 1)
  refine wp_region_any hm ?_
  rw [← hw]
  exact wpAny_of_X _ _ _ _ (any_of_perm hsel _ _ _ _ _ Closed.none_ hc (Nat.le_of_ble_eq_true hl) (h σ' ⟨hn'⟩ a hn hD hf))
theorem WX.use (h : WX P ops n Q mu l D f σ) : ∀ a : Act, a.tmps.size = n → a.defers = D → fr a = f → wpPerm P ops (LQ n Q) mu l a σ.w := h
end
section
variable {P : Program} {ops : Array Oper} {n : Nat} {Q : PostQ} {mu : List Nat} {l : PT} {D : List Deferred} {f : Fr} {σ : St} {i : Nat}
def WXp (P : Program) (ops : Array Oper) (n : Nat) (Q : PostQ) (mu : List Nat) (l : PT) (D : List Deferred) (f : Fr) (σ : St) (i : Nat) : Prop := WX P ops n Q mu (.p i l) D f σ
def WXl (P : Program) (ops : Array Oper) (n : Nat) (Q : PostQ) (mu : List Nat) (l : PT) (D : List Deferred) (f : Fr) (σ : St) (i : Nat) : Prop := WX P ops n Q mu (.l i l) D f σ
def WXh (P : Program) (ops : Array Oper) (n : Nat) (Q : PostQ) (mu : List Nat) (l : PT) (D : List Deferred) (f : Fr) (σ : St) (i : Nat) : Prop := WX P ops n Q mu (.h i l) D f σ
theorem WX.isP (h : WXp P ops n Q mu l D f σ i) : WX P ops n Q mu (.p i l) D f σ := h
theorem WX.isL (h : WXl P ops n Q mu l D f σ i) : WX P ops n Q mu (.l i l) D f σ := h
theorem WX.isH (h : WXh P ops n Q mu l D f σ i) : WX P ops n Q mu (.h i l) D f σ := h
end
attribute [irreducible] WX
theorem mixed : Try.prog.follows .mixedOrders = true := by kernel_rfl
end Go.Proofs.Ytchdbmnikaacdaa

/- The engine, the driver: each judgement's next step, found by instances.  -/
set_option linter.all false
namespace Go.Proofs.Ytchdbmnikaacdaa
open Go Go.RowKit

/-- to show g it is enough to show k -/
class Nxt (g : Prop) (k : outParam Prop) : Prop where
  run : k → g
theorem go {g k : Prop} [h : Nxt g k] (x : k) : g := h.run x
/-- the same, at a region -/
class NxtR (g : Prop) (k : outParam Prop) : Prop where
  run : k → g
theorem goO {a b : Prop} (h : a) (k : b) : a ∧ b := ⟨h, k⟩
theorem goR {g k : Prop} [h : NxtR g k] (x : k) : g := h.run x
class NxtF (g : Prop) (k l : outParam Prop) : Prop where
  run : k → l → g
class NxtG (g : Prop) (k l m : outParam Prop) : Prop where
  run : k → l → m → g
theorem goG {g k l m : Prop} [h : NxtG g k l m] (x : k) (y : l) (z : m) : g := h.run x y z
theorem goF {g k l : Prop} [h : NxtF g k l] (x : k) (y : l) : g := h.run x y
class IsC (y : Code) (x : outParam Code) : Prop where
  eq : y = x
class Sel (b : Bool) (x y : Prop) (k : outParam Prop) : Prop where
  t : b = true → k → x
  f : b = false → k → y
instance Sel.t_ {x y : Prop} : Sel true x y x := ⟨fun _ h => h, nofun⟩
instance Sel.f_ {x y : Prop} : Sel false x y y := ⟨nofun, fun _ h => h⟩

section
variable {next : List Deferred → Fr → St → Prop} {Q : PostQ} {D D' : List Deferred} {f f0 : Fr} {σ σ0 : St} {id id' : Nat} {c : List PanicEntry}
instance : Nxt (thenQ next Q .normal D f σ) (next D f σ) := ⟨fun h => h⟩
instance : Nxt (thenQ next Q .ret D f σ) (Q .ret D f σ) := ⟨fun h => h⟩
instance : Nxt (thenQ next Q (.exit id) D f σ) (Q (.exit id) D f σ) := ⟨fun h => h⟩
instance : Nxt (thenQ next Q (.panic c) D f σ) (Q (.panic c) D f σ) := ⟨fun h => h⟩
instance : Nxt (blockQ id Q .normal D f σ) (Q .normal D f σ) := ⟨fun h => h⟩
instance : Nxt (blockQ id Q .ret D f σ) (Q .ret D f σ) := ⟨fun h => h⟩
instance : Nxt (blockQ id Q (.panic c) D f σ) (Q (.panic c) D f σ) := ⟨fun h => h⟩
instance : Nxt (blockQ id Q (.exit id) D f σ) (Q .normal D f σ) := ⟨block_hit⟩
instance (priority := low) [NeN id' id] : Nxt (blockQ id Q (.exit id') D f σ) (Q (.exit id') D f σ) := ⟨block_miss⟩
variable {ι : Type} {Inv : ι → Fr → St → Prop} {μ : ι → Nat} {i : ι} {W : Nat} {X : Xs}
instance : Nxt (loopQ Inv μ i D' Q .ret D f σ) (Q .ret D f σ) := ⟨fun h => h⟩
instance : Nxt (loopQ Inv μ i D' Q (.exit id) D f σ) (Q (.exit id) D f σ) := ⟨fun h => h⟩
instance : Nxt (loopQ Inv μ i D' Q (.panic c) D f σ) (Q (.panic c) D f σ) := ⟨fun h => h⟩
instance : Nxt (loopQA Inv μ W f0 σ0 X i D' Q .ret D f σ) (Q .ret D f σ) := ⟨fun h => h⟩
instance : Nxt (loopQA Inv μ W f0 σ0 X i D' Q (.exit id) D f σ) (Q (.exit id) D f σ) := ⟨fun h => h⟩
instance : Nxt (loopQA Inv μ W f0 σ0 X i D' Q (.panic c) D f σ) (Q (.panic c) D f σ) := ⟨fun h => h⟩
end

section
variable {P : Program} {n : Nat} {Q : PostQ} {D : List Deferred} {f : Fr} {σ : St}
instance {id : Nat} {l : List Oper} : NxtR (WC P n Q (.region id l.toArray false) D f σ) (WL P l.toArray n Q l D f σ) := ⟨WC.region⟩
theorem goS {x y : Code} (h : ∀ y' : Code, IsC y' y → WC P n (thenQ (fun D' f' σ' => WC P n Q y' D' f' σ') Q) x D f σ) : WC P n Q (.seq x y) D f σ := WC.seqV fun y' e => h y' ⟨e⟩
instance {id : Nat} {c : Code} : Nxt (WC P n Q (.block id c) D f σ) (WC P n (blockQ id Q) c D f σ) := ⟨WC.block⟩
instance : Nxt (WC P n Q .ret D f σ) (Q .ret D f σ) := ⟨WC.ret⟩
instance {id : Nat} : Nxt (WC P n Q (.exit id) D f σ) (Q (.exit id) D f σ) := ⟨WC.exit⟩
instance : Nxt (WC P n Q .skip D f σ) (Q .normal D f σ) := ⟨WC.skip⟩
instance {c : Operand} {x y : Code} {b b' : Bool} {k : Prop} [h : Ev f c (.bool b)] [q : BV b b'] [s : Sel b' (WC P n Q x D f σ) (WC P n Q y D f σ) k] : Nxt (WC P n Q (.cond c x y) D f σ) k := ⟨fun hk => WC.cond (b := b) (fun e => s.t (q.eq.symm.trans e) hk) (fun e => s.f (q.eq.symm.trans e) hk)⟩
instance (priority := low) {y y' : Code} [h : IsC y' y] : Nxt (WC P n Q y' D f σ) (WC P n Q y D f σ) := ⟨WC.code_ h.eq⟩

variable {ops : Array Oper} {l : List Oper}
instance : Nxt (WL P ops n Q [] D f σ) (Q .normal D f σ) := ⟨WL.nil⟩
instance {d : Nat} {op : Op} {ty : TypeId} {pos : String} {aft : Array Edge} {S : Tr} [i : Step P op ty f σ S] [hd : EqB (Nat.ble n d) false] :
    Nxt (WL P ops n Q (⟨some d, op, ty, pos, aft, none⟩ :: l) D f σ) (S (fun v σ' => WL P ops n Q l D (upd f d v) σ') (fun c σ' => Q (.panic c) D f σ')) := ⟨WL.stepR⟩
instance {op : Op} {ty : TypeId} {pos : String} {aft : Array Edge} {S : Tr} [i : Step P op ty f σ S] :
    Nxt (WL P ops n Q (⟨none, op, ty, pos, aft, none⟩ :: l) D f σ) (S (fun _ σ' => WL P ops n Q l D f σ') (fun c σ' => Q (.panic c) D f σ')) := ⟨WL.step0⟩

/-- an operation of a region -/
class Nth (l : List Oper) (i : Nat) (o : outParam Oper) : Prop where
  h : l[i]? = some o
instance Nth.zero {o : Oper} {l : List Oper} : Nth (o :: l) 0 o := ⟨rfl⟩
instance Nth.succ {o o' : Oper} {l : List Oper} {i : Nat} [h : Nth l i o] : Nth (o' :: l) (i + 1) o := ⟨by simpa using h.h⟩
/-- where the answer of an operation goes -/
class DstOf (ops : Array Oper) (i : Nat) (t : outParam Nat) : Prop where
  h : (ops[i]?).bind (·.dst) = some t
instance DstOf.of {l : List Oper} {i t : Nat} {op : Op} {ty : TypeId} {pos : String} {aft : Array Edge} {g : Option (Nat × Bool)} [h : Nth l i ⟨some t, op, ty, pos, aft, g⟩] : DstOf l.toArray i t := ⟨by simp [h.h]⟩
class EqBo (x y : Bool) (b : outParam Bool) : Prop where
  h : (x == y) = b
instance : EqBo true true true := ⟨rfl⟩
instance : EqBo true false false := ⟨rfl⟩
instance : EqBo false true false := ⟨rfl⟩
instance : EqBo false false true := ⟨rfl⟩
theorem bo_t {x y : Bool} (h : EqBo x y true) : x = y := by have := h.h; simpa using this
theorem blt_of {n d : Nat} (h : EqB (Nat.ble n d) false) : Nat.blt d n = true := by
  refine Nat.ble_eq_true_of_le (?_ : d + 1 ≤ n)
  have := h.eq
  exact Nat.lt_of_not_le fun k => by rw [Nat.ble_eq_true_of_le k] at this; cases this
/-- a guard's answer is known -/
def Wg (P : Program) (ops : Array Oper) (n : Nat) (Q : PostQ) (r : Bool) (o : Oper) (l : List Oper) (D : List Deferred) (f : Fr) (σ : St) : Prop :=
  ∀ (g : Nat × Bool) (t : Nat) (b' : Bool), o.guard = some g → (ops[g.1]?).bind (·.dst) = some t → t < n → At f t (.bool b') → (b' == g.2) = r → WL P ops n Q (o :: l) D f σ
instance {d : Option Nat} {g t : Nat} {b b' b2 r : Bool} {op : Op} {ty : TypeId} {pos : String} {aft : Array Edge} [ht : DstOf ops g t] [hl : EqB (Nat.ble n t) false] [h : At f t (.bool b')] [q : BV b' b2] [e : EqBo b2 b r] :
    Nxt (WL P ops n Q (⟨d, op, ty, pos, aft, some (g, b)⟩ :: l) D f σ) (Wg P ops n Q r ⟨d, op, ty, pos, aft, some (g, b)⟩ l D f σ) := ⟨fun k => k (g, b) t b' rfl ht.h (lt_of_blt (blt_of hl)) h (q.eq ▸ e.h)⟩
theorem blt_lt {a b : Nat} (h : a < b) : Nat.blt a b = true := Nat.ble_eq_true_of_le h
instance {d : Option Nat} {g : Nat × Bool} {op : Op} {ty : TypeId} {pos : String} {aft : Array Edge} :
    Nxt (Wg P ops n Q true ⟨d, op, ty, pos, aft, some g⟩ l D f σ) (WL P ops n Q (⟨d, op, ty, pos, aft, none⟩ :: l) D f σ) := ⟨fun k g' t b' e1 ht hl h e => by
  injection e1 with e1; subst e1
  obtain ⟨g, b⟩ := g
  have : b' = b := by simpa using e
  subst this
  exact WL.hit ht (blt_lt hl) k⟩
instance {d : Nat} {g : Nat × Bool} {op : Op} {ty : TypeId} {pos : String} {aft : Array Edge} [hd : EqB (Nat.ble n d) false] :
    Nxt (Wg P ops n Q false ⟨some d, op, ty, pos, aft, some g⟩ l D f σ) (WL P ops n Q l D (upd f d undef) σ) := ⟨fun k g' t b' e1 ht hl h e => by
  injection e1 with e1; subst e1
  obtain ⟨g, b⟩ := g
  exact WL.missed ht (blt_lt hl) (blt_of hd) e k⟩
instance {g : Nat × Bool} {op : Op} {ty : TypeId} {pos : String} {aft : Array Edge} :
    Nxt (Wg P ops n Q false ⟨none, op, ty, pos, aft, some g⟩ l D f σ) (WL P ops n Q l D f σ) := ⟨fun k g' t b' e1 ht hl h e => by
  injection e1 with e1; subst e1
  obtain ⟨g, b⟩ := g
  exact WL.missed0 ht (blt_lt hl) e k⟩
end

/-! regions that draw -/
section
variable {P : Program} {l : List Oper} {n : Nat} {Q : PostQ} {mu : List Nat} {p : PT} {D : List Deferred} {f : Fr} {σ : St} {i : Nat}
inductive Kd where
  | p
  | l
  | h
def Kd.pt : Kd → Nat → PT → PT
  | .p, i, r => .p i r
  | .l, i, r => .l i r
  | .h, i, r => .h i r
/-- the operation of the step is told; r: its guard holds, or it does not -/
def Wo (P : Program) (ops : Array Oper) (n : Nat) (Q : PostQ) (mu : List Nat) (r : Bool) (k : Kd) (i : Nat) (o : Oper) (p : PT) (D : List Deferred) (f : Fr) (σ : St) : Prop :=
  ops[i]? = some o → (∀ g, o.guard = some g → ∃ (t : Nat) (b' : Bool), (ops[g.1]?).bind (·.dst) = some t ∧ t < n ∧ At f t (.bool b') ∧ (b' == g.2) = r) → WX P ops n Q mu (k.pt i p) D f σ
class GdOf (ops : Array Oper) (n : Nat) (f : Fr) (g : Option (Nat × Bool)) (r : outParam Bool) : Prop where
  h : ∀ g', g = some g' → ∃ (t : Nat) (b' : Bool), (ops[g'.1]?).bind (·.dst) = some t ∧ t < n ∧ At f t (.bool b') ∧ (b' == g'.2) = r
instance {ops : Array Oper} : GdOf ops n f none true := ⟨nofun⟩
instance {ops : Array Oper} {g t : Nat} {b b' b2 r : Bool} [ht : DstOf ops g t] [hl : EqB (Nat.ble n t) false] [h : At f t (.bool b')] [q : BV b' b2] [e : EqBo b2 b r] : GdOf ops n f (some (g, b)) r :=
  ⟨fun g' e1 => by injection e1 with e1; subst e1; exact ⟨t, b', ht.h, lt_of_blt (blt_of hl), h, q.eq ▸ e.h⟩⟩
instance {d : Option Nat} {op : Op} {ty : TypeId} {pos : String} {aft : Array Edge} {g : Option (Nat × Bool)} {r : Bool} [h : Nth l i ⟨d, op, ty, pos, aft, g⟩] [k : GdOf l.toArray n f g r] : Nxt (WX P l.toArray n Q mu (.p i p) D f σ) (Wo P l.toArray n Q mu r .p i ⟨d, op, ty, pos, aft, g⟩ p D f σ) := ⟨fun x => x (by simp [h.h]) k.h⟩
instance {d : Option Nat} {op : Op} {ty : TypeId} {pos : String} {aft : Array Edge} {g : Option (Nat × Bool)} {r : Bool} [h : Nth l i ⟨d, op, ty, pos, aft, g⟩] [k : GdOf l.toArray n f g r] : Nxt (WX P l.toArray n Q mu (.l i p) D f σ) (Wo P l.toArray n Q mu r .l i ⟨d, op, ty, pos, aft, g⟩ p D f σ) := ⟨fun x => x (by simp [h.h]) k.h⟩
instance {d : Option Nat} {op : Op} {ty : TypeId} {pos : String} {aft : Array Edge} {g : Option (Nat × Bool)} {r : Bool} [h : Nth l i ⟨d, op, ty, pos, aft, g⟩] [k : GdOf l.toArray n f g r] : Nxt (WX P l.toArray n Q mu (.h i p) D f σ) (Wo P l.toArray n Q mu r .h i ⟨d, op, ty, pos, aft, g⟩ p D f σ) := ⟨fun x => x (by simp [h.h]) k.h⟩
instance : Nxt (WX P l.toArray n Q mu .nil D f σ) (Q .normal D f σ) := ⟨WX.nil⟩

/-- a value at whatever state, at all that come of this one -/
class AllV (P : Program) (op : Op) (ty : TypeId) (f : Fr) (v : outParam Value) : Prop where
  h : ∀ σ' : St, StepV P op ty f σ' v
instance {op : Op} {ty : TypeId} {v : Value} [h : ∀ σ' : St, StepV P op ty f σ' v] : AllV P op ty f v := ⟨h⟩
variable {ops : Array Oper}
instance {d : Nat} {op : Op} {ty : TypeId} {pos : String} {aft : Array Edge} {g : Option (Nat × Bool)} {v : Value} [pf : PFree Q] [hd : EqB (Nat.ble n d) false] [k : AllV P op ty f v] :
    Nxt (Wo P ops n Q mu true .p i ⟨some d, op, ty, pos, aft, g⟩ p D f σ) (WX P ops n Q mu p D (upd f d v) σ) := ⟨fun x ho hg => by
  cases g with
  | none => exact WX.pure ho (blt_of hd) k.h x
  | some g =>
    obtain ⟨t, b', ht, hl, ha, he⟩ := hg g rfl
    obtain ⟨g, b⟩ := g
    have : b' = b := by simpa using he
    subst this
    exact WX.pure_hit ho ht (blt_lt hl) (blt_of hd) k.h x⟩
theorem goL {d : Nat} {op : Op} {ty : TypeId} {pos : String} {aft : Array Edge} {g : Option (Nat × Bool)} {v : Value} [pf : PFree Q] [hd : EqB (Nat.ble n d) false] (k : ∀ σ' : St, Nx σ σ' .no → StepV P op ty f σ' v)
    (x : WX P ops n Q mu p D (upd f d v) σ) : Wo P ops n Q mu true .l i ⟨some d, op, ty, pos, aft, g⟩ p D f σ := by
  intro ho hg
  cases g with
  | none => exact WX.light ho (blt_of hd) k x
  | some g =>
    obtain ⟨t, b', ht, hl, ha, he⟩ := hg g rfl
    obtain ⟨g, b⟩ := g
    have : b' = b := by simpa using he
    subst this
    exact WX.light_hit ho ht (blt_lt hl) (blt_of hd) k x
instance {d : Nat} {op : Op} {ty : TypeId} {pos : String} {aft : Array Edge} {g : Option (Nat × Bool)} {S : Tr} [k : Step P op ty f σ S] [hd : EqB (Nat.ble n d) false] :
    Nxt (Wo P ops n Q mu true .h i ⟨some d, op, ty, pos, aft, g⟩ p D f σ) (S (fun v σ' => (i ∉ mu → Ext σ σ') ∧ WX P ops n Q mu p D (upd f d v) σ') (fun c σ' => Q (.panic c) D f σ')) := ⟨fun x ho hg => by
  cases g with
  | none => exact WX.heavy ho (blt_of hd) x
  | some g =>
    obtain ⟨t, b', ht, hl, ha, he⟩ := hg g rfl
    obtain ⟨g, b⟩ := g
    have : b' = b := by simpa using he
    subst this
    exact WX.heavy_hit ho ht (blt_lt hl) (blt_of hd) x⟩
theorem WX.heavy0_hit {i g t : Nat} {b : Bool} {op : Op} {ty : TypeId} {pos : String} {aft : Array Edge} (ho : ops[i]? = some ⟨none, op, ty, pos, aft, some (g, b)⟩) (ht : (ops[g]?).bind (·.dst) = some t) (hl : Nat.blt t n = true) [hg : At f t (.bool b)]
    {S : Tr} [k : Step P op ty f σ S]
    (h : S (fun v σ' => (i ∉ mu → Ext σ σ') ∧ WX P ops n Q mu p D f σ') (fun c σ' => Q (.panic c) D f σ')) : WX P ops n Q mu (.h i p) D f σ := by
  unfold WX
  rintro a hn rfl rfl
  have hy := yielded_at ht (by rw [hn]; exact lt_of_blt hl) hg.eq
  unfold wpPerm wpOp
  simp only [ho, Region.wanted, hy, BEq.rfl, if_true]
  refine .inl (Oper.wp_of_OpW (E := fun c w' => ∃ σ' : St, σ'.w = w' ∧ Q (.panic c) a.defers (fr a) σ') ?_ (fun c w' hc => ⟨hn, hc⟩))
  refine (k.sound _ _ h).mono ?_ (fun _ _ h => h)
  rintro v _ ⟨σ', rfl, he, h'⟩
  exact ⟨fun hm => (he hm).l, h'.use _ (by rw [size_put, hn]) defers_put fr_put_none⟩
instance {op : Op} {ty : TypeId} {pos : String} {aft : Array Edge} {g : Option (Nat × Bool)} {S : Tr} [k : Step P op ty f σ S] :
    Nxt (Wo P ops n Q mu true .h i ⟨none, op, ty, pos, aft, g⟩ p D f σ) (S (fun v σ' => (i ∉ mu → Ext σ σ') ∧ WX P ops n Q mu p D f σ') (fun c σ' => Q (.panic c) D f σ')) := ⟨fun x ho hg => by
  cases g with
  | none => exact WX.heavy0 ho x
  | some g =>
    obtain ⟨t, b', ht, hl, ha, he⟩ := hg g rfl
    obtain ⟨g, b⟩ := g
    have : b' = b := by simpa using he
    subst this
    exact WX.heavy0_hit ho ht (blt_lt hl) x⟩
theorem WX.heavy0_miss {i g t : Nat} {b b' : Bool} {op : Op} {ty : TypeId} {pos : String} {aft : Array Edge} (ho : ops[i]? = some ⟨none, op, ty, pos, aft, some (g, b)⟩) (ht : (ops[g]?).bind (·.dst) = some t) (hl : Nat.blt t n = true) [hg : At f t (.bool b')]
    (hb : (b' == b) = false) (h : WX P ops n Q mu p D f σ) : WX P ops n Q mu (.h i p) D f σ := by
  unfold WX
  rintro a hn rfl rfl
  have hy := yielded_at ht (by rw [hn]; exact lt_of_blt hl) hg.eq
  have hne : (some b' == some b) = false := by simpa using hb
  unfold wpPerm wpOp
  simp only [ho, Region.wanted, hy, hne, Bool.false_eq_true, if_false]
  exact ⟨fun _ => Later.refl _, h.use _ (by rw [size_put, hn]) defers_put fr_put_none⟩
instance {op : Op} {ty : TypeId} {pos : String} {aft : Array Edge} {g : Nat × Bool} :
    Nxt (Wo P ops n Q mu false .h i ⟨none, op, ty, pos, aft, some g⟩ p D f σ) (WX P ops n Q mu p D f σ) := ⟨fun x ho hg => by
  obtain ⟨t, b', ht, hl, ha, he⟩ := hg g rfl
  obtain ⟨g, b⟩ := g
  exact WX.heavy0_miss ho ht (blt_lt hl) he x⟩
instance {d : Nat} {op : Op} {ty : TypeId} {pos : String} {aft : Array Edge} {g : Nat × Bool} {k : Kd} [pf : PFree Q] [hd : EqB (Nat.ble n d) false] :
    Nxt (Wo P ops n Q mu false k i ⟨some d, op, ty, pos, aft, some g⟩ p D f σ) (WX P ops n Q mu p D (upd f d undef) σ) := ⟨fun x ho hg => by
  obtain ⟨t, b', ht, hl, ha, he⟩ := hg g rfl
  obtain ⟨g, b⟩ := g
  cases k with
  | p => exact WX.pure_miss ho ht (blt_lt hl) he (blt_of hd) x
  | l => exact WX.light_miss ho ht (blt_lt hl) he (blt_of hd) x
  | h => exact WX.heavy_miss ho ht (blt_lt hl) he (blt_of hd) x⟩
class InL (i : Nat) (mu : List Nat) : Prop where
  h : i ∈ mu
instance InL.hd {i : Nat} {mu : List Nat} : InL i (i :: mu) := ⟨by simp⟩
instance (priority := low) InL.tl {i j : Nat} {mu : List Nat} [h : InL i mu] : InL i (j :: mu) := ⟨List.mem_cons_of_mem _ h.h⟩
instance {σ' : St} {A : Prop} [h : InL i mu] : Nxt ((i ∉ mu → Ext σ σ') ∧ A) A := ⟨fun a => ⟨fun n => (n h.h).elim, a⟩⟩
instance (priority := low) {σ' : St} {A : Prop} [h : Ext σ σ'] : Nxt ((i ∉ mu → Ext σ σ') ∧ A) A := ⟨fun a => ⟨fun _ => h, a⟩⟩
instance {j : Nat} {s : PT} : NxtF (WX P ops n Q mu (.f i p j s) D f σ) (WX P ops n Q mu (.h i p) D f σ) (WX P ops n Q mu (.h j s) D f σ) := ⟨WX.fork⟩
instance {j k : Nat} {s t : PT} : NxtG (WX P ops n Q mu (.g i p j s k t) D f σ) (WX P ops n Q mu (.h i p) D f σ) (WX P ops n Q mu (.h j s) D f σ) (WX P ops n Q mu (.h k t) D f σ) := ⟨WX.fork3⟩
/-! a guard that stands for nothing: its operation did not run -/
class GUn (ops : Array Oper) (n : Nat) (f : Fr) (g : Nat × Bool) : Prop where
  h : ∀ a : Act, a.tmps.size = n → fr a = f → (yielded ops a.tmps g.1 == some g.2) = false
instance {ops : Array Oper} {g t : Nat} {b : Bool} [ht : DstOf ops g t] [h : At f t undef] : GUn ops n f (g, b) := ⟨fun a hn hf => by
  subst hf
  have h1 := h.eq
  unfold yielded
  rw [ht.h]
  simp only [Option.bind_some]
  unfold fr at h1
  by_cases hl : t < a.tmps.size
  · rw [Array.getElem?_eq_getElem hl]
    simp only [Array.getD, hl, dif_pos] at h1
    have h2 : a.tmps[t] = undef := h1
    rw [h2]; rfl
  · rw [Array.getElem?_eq_none (by omega)]; rfl⟩
instance {d : Nat} {g : Nat × Bool} {op : Op} {ty : TypeId} {pos : String} {aft : Array Edge} {l : List Oper} [k : GUn ops n f g] [hd : EqB (Nat.ble n d) false] :
    Nxt (WL P ops n Q (⟨some d, op, ty, pos, aft, some g⟩ :: l) D f σ) (WL P ops n Q l D (upd f d undef) σ) := ⟨fun hh => by
  unfold WL at *
  rintro a hn rfl rfl
  have hy := k.h a hn rfl
  obtain ⟨g, b⟩ := g
  simp only at hy
  simp only [wpList, Region.wanted, hy]
  exact hh _ (by rw [size_put, hn]) defers_put (fr_put (by rw [hn]; exact lt_of_blt (blt_of hd)))⟩
instance {g : Nat × Bool} {op : Op} {ty : TypeId} {pos : String} {aft : Array Edge} {l : List Oper} [k : GUn ops n f g] :
    Nxt (WL P ops n Q (⟨none, op, ty, pos, aft, some g⟩ :: l) D f σ) (WL P ops n Q l D f σ) := ⟨fun hh => by
  unfold WL at *
  rintro a hn rfl rfl
  have hy := k.h a hn rfl
  obtain ⟨g, b⟩ := g
  simp only at hy
  simp only [wpList, Region.wanted, hy]
  exact hh _ (by rw [size_put, hn]) defers_put fr_put_none⟩
theorem WX.un {k : Kd} {d : Nat} {g : Nat × Bool} {op : Op} {ty : TypeId} {pos : String} {aft : Array Edge} (ho : ops[i]? = some ⟨some d, op, ty, pos, aft, some g⟩) (gu : GUn ops n f g) [pf : PFree Q] (hd : Nat.blt d n = true) (h : WX P ops n Q mu p D (upd f d undef) σ) : WX P ops n Q mu (k.pt i p) D f σ := by
  unfold WX at *
  rintro a hn rfl rfl
  have hy := gu.h a hn rfl
  obtain ⟨g, b⟩ := g
  have hx := h _ (by rw [size_put, hn]) defers_put (fr_put (v := undef) (by rw [hn]; exact lt_of_blt hd))
  cases k with
  | p =>
    refine ⟨_, undef, ho, .inr ⟨by simp only [Region.wanted]; exact hy, rfl⟩, ?_, hx⟩
    rintro c a' w' ⟨hs, σ', rfl, hq⟩
    exact ⟨by rwa [size_put] at hs, σ', rfl, pf.h _ _ _ _ _ (by rwa [defers_put] at hq)⟩
  | l =>
    refine ⟨_, undef, ho, .inr ⟨by simp only [Region.wanted]; exact hy, rfl⟩, ?_, hx⟩
    rintro c a' w' ⟨hs, σ', rfl, hq⟩
    exact ⟨by rwa [size_put] at hs, σ', rfl, pf.h _ _ _ _ _ (by rwa [defers_put] at hq)⟩
  | h =>
    show wpPerm P ops _ mu (.h i p) a σ.w
    unfold wpPerm wpOp
    simp only at hy
    simp only [ho, Region.wanted, hy, Bool.false_eq_true, if_false]
    exact ⟨fun _ => Later.refl _, hx⟩
theorem WX.un0 {g : Nat × Bool} {op : Op} {ty : TypeId} {pos : String} {aft : Array Edge} (ho : ops[i]? = some ⟨none, op, ty, pos, aft, some g⟩) (gu : GUn ops n f g) (h : WX P ops n Q mu p D f σ) : WX P ops n Q mu (.h i p) D f σ := by
  unfold WX at *
  rintro a hn rfl rfl
  have hy := gu.h a hn rfl
  obtain ⟨g, b⟩ := g
  have hx := h _ (by rw [size_put, hn]) defers_put (fr_put_none (v := undef))
  unfold wpPerm wpOp
  simp only at hy
  simp only [ho, Region.wanted, hy, Bool.false_eq_true, if_false]
  exact ⟨fun _ => Later.refl _, hx⟩
instance {d : Nat} {op : Op} {ty : TypeId} {pos : String} {aft : Array Edge} {g : Nat × Bool} [h : Nth l i ⟨some d, op, ty, pos, aft, some g⟩] [k : GUn l.toArray n f g] [pf : PFree Q] [hd : EqB (Nat.ble n d) false] : Nxt (WX P l.toArray n Q mu (.p i p) D f σ) (WX P l.toArray n Q mu p D (upd f d undef) σ) := ⟨fun x => WX.un (op := op) (ty := ty) (pos := pos) (aft := aft) (k := .p) (by simp [h.h]) k (blt_of hd) x⟩
instance {d : Nat} {op : Op} {ty : TypeId} {pos : String} {aft : Array Edge} {g : Nat × Bool} [h : Nth l i ⟨some d, op, ty, pos, aft, some g⟩] [k : GUn l.toArray n f g] [pf : PFree Q] [hd : EqB (Nat.ble n d) false] : Nxt (WX P l.toArray n Q mu (.l i p) D f σ) (WX P l.toArray n Q mu p D (upd f d undef) σ) := ⟨fun x => WX.un (op := op) (ty := ty) (pos := pos) (aft := aft) (k := .l) (by simp [h.h]) k (blt_of hd) x⟩
instance {d : Nat} {op : Op} {ty : TypeId} {pos : String} {aft : Array Edge} {g : Nat × Bool} [h : Nth l i ⟨some d, op, ty, pos, aft, some g⟩] [k : GUn l.toArray n f g] [pf : PFree Q] [hd : EqB (Nat.ble n d) false] : Nxt (WX P l.toArray n Q mu (.h i p) D f σ) (WX P l.toArray n Q mu p D (upd f d undef) σ) := ⟨fun x => WX.un (op := op) (ty := ty) (pos := pos) (aft := aft) (k := .h) (by simp [h.h]) k (blt_of hd) x⟩
instance {op : Op} {ty : TypeId} {pos : String} {aft : Array Edge} {g : Nat × Bool} [h : Nth l i ⟨none, op, ty, pos, aft, some g⟩] [k : GUn l.toArray n f g] : Nxt (WX P l.toArray n Q mu (.h i p) D f σ) (WX P l.toArray n Q mu p D f σ) := ⟨fun x => WX.un0 (op := op) (ty := ty) (pos := pos) (aft := aft) (by simp [h.h]) k x⟩
end
attribute [irreducible] Wg Wo
end Go.Proofs.Ytchdbmnikaacdaa

/- The engine, part 4: slices. 'SL': a slice that nobody writes, read as a list; 'Row': a slice that the call itself writes.  -/
set_option linter.all false
namespace Go.Proofs.Ytchdbmnikaacdaa
open Go Go.RowKit

/-! ### Elements -/
structure Elem (α : Type) where
  sz : Nat
  agg : Bool
  val : α → Value
  ok : St → α → Prop
  nx : ∀ (σ σ' : St) (X : Xs) (x : α), NxP σ σ' X → ok σ x → ok σ' x := by intros; trivial
  wk : ∀ (σ σ' : St) (x : α), σ'.w = σ.w → (∀ b, σ'.M b → σ.M b) → ok σ x → ok σ' x := by intros; trivial
  pos : 0 < sz
  size : ∀ x, (val x).cells.size = sz
  one : ∀ x, ∀ v ∈ (val x).cells.toList, v.oneCell' = true
  shapeA : ∀ x, agg = true → val x = .agg (val x).cells
  shape1 : ∀ x, agg = false → (val x).cells = #[val x]

section
variable {α : Type} (E : Elem α)
def Elem.flat (xs : List α) : List Value := xs.flatMap fun x => (E.val x).cells.toList
theorem Elem.flat_nil : E.flat [] = [] := rfl
theorem Elem.flat_cons (x : α) (xs : List α) : E.flat (x :: xs) = (E.val x).cells.toList ++ E.flat xs := rfl
theorem Elem.flat_append (xs ys : List α) : E.flat (xs ++ ys) = E.flat xs ++ E.flat ys := by simp [Elem.flat]
theorem Elem.flat_length (xs : List α) : (E.flat xs).length = xs.length * E.sz := by
  induction xs with
  | nil => simp [Elem.flat]
  | cons x xs ih => rw [E.flat_cons, List.length_append, ih, List.length_cons, Nat.add_mul]; simp [E.size]; omega
theorem Elem.flat_get (xs : List α) : ∀ (i j : Nat) (h : i < xs.length), j < E.sz → (E.flat xs)[i * E.sz + j]? = (E.val xs[i]).cells[j]? := by
  induction xs with
  | nil => intro i j h; simp at h
  | cons x xs ih =>
    intro i j h hj
    cases i with
    | zero => rw [E.flat_cons, Nat.zero_mul, Nat.zero_add, List.getElem?_append_left (by simpa [E.size] using hj)]; simp
    | succ i =>
      rw [E.flat_cons, List.getElem?_append_right (by simp [E.size, Nat.add_mul]; omega)]
      have : (i + 1) * E.sz + j - (E.val x).cells.toList.length = i * E.sz + j := by simp [E.size, Nat.add_mul]; omega
      rw [this, ih i j (by simpa using h) hj]
      simp
theorem Elem.flat_one {xs : List α} : ∀ v ∈ E.flat xs, v.oneCell' = true := by
  intro v hv
  obtain ⟨x, _, h⟩ := List.mem_flatMap.1 hv
  exact E.one x v h
theorem Elem.flat_take (xs : List α) (k : Nat) : (E.flat xs).take (k * E.sz) = E.flat (xs.take k) := by
  induction xs generalizing k with
  | nil => simp [Elem.flat]
  | cons x xs ih =>
    cases k with
    | zero => simp [Elem.flat]
    | succ k => rw [List.take_succ_cons, E.flat_cons, E.flat_cons, List.take_append, ← ih k, List.take_of_length_le (by simp [E.size, Nat.add_mul])]; simp [E.size, Nat.add_mul]
theorem Elem.flat_drop (xs : List α) (k : Nat) : (E.flat xs).drop (k * E.sz) = E.flat (xs.drop k) := by
  induction xs generalizing k with
  | nil => simp [Elem.flat]
  | cons x xs ih =>
    cases k with
    | zero => simp
    | succ k => rw [List.drop_succ_cons, E.flat_cons, List.drop_append, ← ih k, List.drop_eq_nil_of_le (by simp [E.size, Nat.add_mul])]; simp [E.size, Nat.add_mul]
end

/-- the elements of a type; how an element's value is spelt; its zero -/
class ElemOf (P : Program) (t : TypeId) {α : outParam Type} (E : outParam (Elem α)) (bytes : outParam Nat) : Prop where
  ti : TI P t E.agg E.sz bytes
class FlatV {α : Type} (E : Elem α) (val : outParam (α → Value)) : Prop where
  eq : E.val = val
class EncV (σ : St) {α : Type} (E : Elem α) (v : Value) (x : outParam α) : Prop where
  eq : v = E.val x
  ok : E.ok σ x
class EncL (σ : St) {α : Type} (E : Elem α) (vs : List Value) (xs : outParam (List α)) : Prop where
  eq : vs = xs.map E.val
  ok : ∀ x ∈ xs, E.ok σ x
instance EncL.nil {σ : St} {α : Type} {E : Elem α} : EncL σ E [] [] := ⟨rfl, by simp⟩
instance EncL.cons {σ : St} {α : Type} {E : Elem α} {v : Value} {vs : List Value} {x : α} {xs : List α} [h : EncV σ E v x] [g : EncL σ E vs xs] : EncL σ E (v :: vs) (x :: xs) :=
  ⟨by simp [h.eq, g.eq], fun y hy => by rcases List.mem_cons.1 hy with rfl | hy; exact h.ok; exact g.ok y hy⟩
/-- what is known of a value, beyond its cells -/
class OkE (σ : St) {α : Type} (E : Elem α) (x : α) : Prop where
  h : E.ok σ x
instance (priority := low) OkE.lift {σ σ' : St} {α : Type} {E : Elem α} {x : α} {X : Xs} [n : Nx σ σ' X] [k : OkE σ E x] : OkE σ' E x := ⟨E.nx _ _ _ _ n.p k.h⟩
class ZeroE (P : Program) (t : TypeId) {α : Type} (E : Elem α) (z : outParam α) : Prop where
  h : ∃ i v, P.info? t = some i ∧ i.zero = some v ∧ v.cells = (E.val z).cells
  ok : ∀ σ, E.ok σ z

/-- a slice's head, and what it holds -/
structure Hd (α : Type) where
  A : Option Addr
  n : Nat
  c : Nat
  l : List α
instance {α : Type} : Inhabited (Hd α) := ⟨⟨none, 0, 0, []⟩⟩

/-! ### What is known of a slice -/
class SL (σ : St) (A : Option Addr) (n c : outParam Nat) {α : outParam Type} (E : outParam (Elem α)) (xs : outParam (List α)) : Prop where
  len : xs.length = n
  le : n ≤ c
  max : n ≤ 9223372036854775807
  ok : ∀ x ∈ xs, E.ok σ x
  rd : n = 0 ∨ ∃ b o, A = some ⟨b, o, none⟩ ∧ ¬ σ.M b ∧ b < σ.w.heap.size ∧ ∀ j v, (E.flat xs)[j]? = some v → σ.w.cell? ⟨b, o + j, none⟩ = some v
/-- a slice that the call itself writes: a block from its beginning on; 'zs' is all that the block has room for -/
class Row (σ : St) (A : Option Addr) (n c : outParam Nat) (t : outParam TypeId) {α : outParam Type} (E : outParam (Elem α)) (xs : outParam (List α)) : Prop where
  len : xs.length = n
  ok : ∀ x ∈ xs, E.ok σ x
  le : n ≤ c
  max : c ≤ maxLen
  full : (A = none ∧ c = 0) ∨ ∃ b zs, A = some ⟨b, 0, none⟩ ∧ σ.w.heap[b]? = some (.cells (E.flat zs).toArray t (0, 0)) ∧ zs.length = c ∧ zs.take n = xs ∧ ∀ z ∈ zs, E.ok σ z
  m : ∀ a, A = some a → σ.M a.block
/-- what can be read now -/
class Rd (σ : St) (A : Option Addr) (n c : outParam Nat) {α : outParam Type} (E : outParam (Elem α)) (xs : outParam (List α)) : Prop where
  len : xs.length = n
  le : n ≤ c
  max : n ≤ 9223372036854775807
  ok : ∀ x ∈ xs, E.ok σ x
  rd : n = 0 ∨ ∃ b o, A = some ⟨b, o, none⟩ ∧ ∀ j v, (E.flat xs)[j]? = some v → σ.w.cell? ⟨b, o + j, none⟩ = some v

section
variable {σ σ' : St} {A : Option Addr} {n c : Nat} {t : TypeId} {α : Type} {E : Elem α} {xs : List α}
instance Rd.ofSL [h : SL σ A n c E xs] : Rd σ A n c E xs := ⟨h.len, h.le, h.max, h.ok, h.rd.imp id fun ⟨b, o, ha, _, _, hc⟩ => ⟨b, o, ha, hc⟩⟩
instance Rd.ofRow [h : Row σ A n c t E xs] : Rd σ A n c E xs := by
  have hm := h.max
  have hle := h.le
  simp only [maxLen] at hm
  refine ⟨h.len, hle, by omega, h.ok, ?_⟩
  rcases h.full with ⟨_, hc⟩ | ⟨b, zs, e, hh, hz, hx, _⟩
  · exact .inl (by omega)
  · refine .inr ⟨b, 0, e, fun j v hj => ?_⟩
    rw [cell_own hh, Nat.zero_add]
    rw [← hx, ← E.flat_take, List.getElem?_take] at hj
    split at hj
    · simpa using hj
    · cases hj
theorem SL.nx {X : Xs} (nx : NxP σ σ' X) (h : SL σ A n c E xs) : SL σ' A n c E xs :=
  ⟨h.len, h.le, h.max, fun x hx => E.nx _ _ _ _ nx (h.ok x hx), h.rd.imp id fun ⟨b, o, ha, hm, hb, hc⟩ => ⟨b, o, ha, fun h' => hm (nx.mm b hb h'), Nat.lt_of_lt_of_le hb nx.size, fun j v hj => (World.cell?_of_block (w := σ.w) (nx.imm b hb hm)).trans (hc j v hj)⟩⟩
instance (priority := low) SL.lift {X : Xs} [nx : Nx σ σ' X] [h : SL σ A n c E xs] : SL σ' A n c E xs := h.nx nx.p
instance (priority := low) SL.wk [k : Wk σ σ'] [h : SL σ A n c E xs] : SL σ' A n c E xs :=
  ⟨h.len, h.le, h.max, fun x hx => E.wk _ _ _ k.w k.m (h.ok x hx), h.rd.imp id fun ⟨b, o, ha, hm, hb, hc⟩ => ⟨b, o, ha, fun h' => hm (k.m b h'), by rw [k.w]; exact hb, by rw [k.w]; exact hc⟩⟩
theorem SL.nil_ {α : Type} {E : Elem α} : SL σ .none 0 0 E [] := ⟨rfl, Nat.le_refl _, by omega, by simp, .inl rfl⟩
theorem Row.nil_ {t : TypeId} {α : Type} {E : Elem α} : Row σ .none 0 0 t E [] := ⟨rfl, by simp, Nat.le_refl _, Nat.zero_le _, .inl ⟨rfl, rfl⟩, nofun⟩
/-- the same two, of elements that are told: a nil slice is one, too -/
class SLq (σ : St) (A : Option Addr) (n c : outParam Nat) {α : Type} (E : Elem α) (xs : outParam (List α)) : Prop where
  sl : SL σ A n c E xs
class RowQ (σ : St) (A : Option Addr) (n c : outParam Nat) (t : TypeId) {α : Type} (E : Elem α) (xs : outParam (List α)) : Prop where
  row : Row σ A n c t E xs
instance SLq.of [h : SL σ A n c E xs] : SLq σ A n c E xs := ⟨h⟩
instance (priority := high) SLq.nil {α : Type} {E : Elem α} : SLq σ .none 0 0 E [] := ⟨SL.nil_⟩
instance RowQ.of [h : Row σ A n c t E xs] : RowQ σ A n c t E xs := ⟨h⟩
instance (priority := high) RowQ.nil {t : TypeId} {α : Type} {E : Elem α} : RowQ σ .none 0 0 t E [] := ⟨Row.nil_⟩
theorem SL.wk_ (hw : σ'.w = σ.w) (hm : ∀ b, σ'.M b → σ.M b) (h : SL σ A n c E xs) : SL σ' A n c E xs :=
  ⟨h.len, h.le, h.max, fun x hx => E.wk _ _ _ hw hm (h.ok x hx), h.rd.imp id fun ⟨b, o, ha, hm', hb, hc⟩ => ⟨b, o, ha, fun h' => hm' (hm b h'), by rw [hw]; exact hb, by rw [hw]; exact hc⟩⟩
theorem SL.okAt [Inhabited α] (h : SL σ A n c E xs) {i : Nat} (hi : i < n) : OkE σ E xs[i]! := ⟨h.ok _ (by rw [getElem!_pos xs i (by rw [h.len]; exact hi)]; exact List.getElem_mem _)⟩
theorem Row.lift {X : Xs} (nx : NxP σ σ' X) (h : Row σ A n c t E xs) (hx : ∀ a, A = some a → ¬ X.hits a.block) : Row σ' A n c t E xs := by
  refine ⟨h.len, fun x hx => E.nx _ _ _ _ nx (h.ok x hx), h.le, h.max, ?_, fun a ha => ((nx.own _ (σ.wf _ (h.m a ha)) (hx a ha)).2 (h.m a ha))⟩
  rcases h.full with h1 | ⟨b, zs, ea, hh, hz, ht, hok⟩
  · exact .inl h1
  · exact .inr ⟨b, zs, ea, ((nx.own b (σ.wf _ (h.m _ ea)) (hx _ ea)).1).trans hh, hz, ht, fun z hz => E.nx _ _ _ _ nx (hok z hz)⟩
theorem Row.typed (h : Row σ A n c t E xs) : ∀ a, A = some a → ∃ cs fz, σ.w.heap[a.block]? = some (.cells cs t fz) := by
  intro a ha
  rcases h.full with ⟨e, _⟩ | ⟨b, zs, ea, hh, _⟩
  · rw [ha] at e; cases e
  · rw [ha] at ea; injection ea with ea; subst ea; exact ⟨_, _, hh⟩
/-- what turned is not this row -/
class MisR (σ : St) (X : Xs) (A : Option Addr) (t : TypeId) : Prop where
  h : (∀ a, A = some a → ∃ cs fz, σ.w.heap[a.block]? = some (.cells cs t fz)) → X.typed σ.w → ∀ a, A = some a → ¬ X.hits a.block
/-- a row's block is another one than this variable's -/
class NeA (A : Option Addr) (b : Nat) : Prop where
  ne : ∀ a, A = some a → a.block ≠ b
/-- two rows' blocks -/
class NeAA (A B : Option Addr) : Prop where
  ne : ∀ a b, A = some a → B = some b → a.block ≠ b.block
instance MisR.no : MisR σ .no A t := ⟨fun _ _ _ _ h => h⟩
instance (priority := low) MisR.one_ty {b : Nat} {t' : TypeId} [k : NeN t t'] : MisR σ (.one b t') A t := ⟨fun h ht a ha hh => by
  obtain ⟨cs, fz, e⟩ := h a ha
  obtain ⟨cs', fz', e'⟩ := ht
  rw [show a.block = b from hh] at e
  rw [e] at e'; injection e' with e'; injection e' with _ e'; exact k.ne e'⟩
instance (priority := low) MisR.one_ne {b : Nat} {t' : TypeId} [k : NeA A b] : MisR σ (.one b t') A t := ⟨fun h ht a ha hh => k.ne a ha hh⟩
instance (priority := low) MisR.row_ty {B : Option Addr} {t' : TypeId} [k : NeN t t'] : MisR σ (.row B t') A t := ⟨fun h ht a ha hh => by
  obtain ⟨cs, fz, e⟩ := h a ha
  obtain ⟨b, hb, hbb⟩ := hh
  obtain ⟨cs', fz', e'⟩ := ht b hb
  rw [hbb] at e'
  rw [e] at e'; injection e' with e'; injection e' with _ e'; exact k.ne e'⟩
instance (priority := low) MisR.row_ne {B : Option Addr} {t' : TypeId} [k : NeAA A B] : MisR σ (.row B t') A t := ⟨fun h ht a ha hh => by
  obtain ⟨b, hb, hbb⟩ := hh
  exact k.ne a b ha hb hbb.symm⟩
instance (priority := low) MisR.map {r : Nat} : MisR σ (.map r) A t := ⟨fun h ht a ha hh => by
  obtain ⟨cs, fz, e⟩ := h a ha
  obtain ⟨es, ck, e'⟩ := ht
  rw [show a.block = r from hh] at e
  rw [e] at e'; injection e' with e'; cases e'⟩
instance (priority := low) MisR.un {X Y : Xs} [k : MisR σ X A t] [l : MisR σ Y A t] : MisR σ (.un X Y) A t := ⟨fun h ht a ha hh => hh.elim (k.h h ht.1 a ha) (l.h h ht.2 a ha)⟩
instance (priority := low) Row.lift_ {X : Xs} [nx : Nx σ σ' X] [h : Row σ A n c t E xs] [k : MisR σ X A t] : Row σ' A n c t E xs := h.lift nx.p (k.h h.typed nx.p.ty)
/-- where a row went -/
class RowNew (σ : outParam St) (A : outParam (Option Addr)) (A' : Option Addr) : Prop where
  h : ∀ a', A' = some a' → (∃ a, A = some a ∧ a.block = a'.block) ∨ σ.w.heap.size ≤ a'.block
instance NeA.none {b : Nat} : NeA .none b := ⟨nofun⟩
instance (priority := low) NeA.new {A A' : Option Addr} {b : Nat} [k : RowNew σ A A'] [h : NeA A b] [i : InH σ b] : NeA A' b := ⟨fun a' ha' => by
  rcases k.h a' ha' with ⟨a, ha, e⟩ | hg
  · rw [← e]; exact h.ne a ha
  · have := i.lt; omega⟩
instance (priority := low) NeA.var {b : Nat} [k : NewAt σ b] [r : Row σ A n c t E xs] : NeA A b := ⟨fun a ha => by
  have := σ.wf _ (r.m a ha)
  have := k.ge
  omega⟩
instance (priority := low) Mis.row_ne {B : Option Addr} {b : Nat} {t1 t' : TypeId} [k : NeA B b] : Mis σ (.row B t') b t1 := ⟨fun cs fz h ht e => by
  obtain ⟨a, ha, e⟩ := e
  exact k.ne a ha e⟩
/-- a variable that is not older than a row -/
instance (priority := low) NeA.own {A' : Option Addr} {b : Nat} [k : RowNew σ Option.none A'] [i : InH σ b] : NeA A' b := ⟨fun a' ha' => by
  rcases k.h a' ha' with ⟨a, ha, e⟩ | hg
  · cases ha
  · have := i.lt; omega⟩
instance NeAA.none {B : Option Addr} : NeAA .none B := ⟨nofun⟩
instance NeAA.none' {B : Option Addr} : NeAA B .none := ⟨nofun⟩
instance (priority := low) NeAA.new {A A' B : Option Addr} [k : RowNew σ A A'] [h : NeAA A B] [r : Row σ B n c t E xs] : NeAA A' B := ⟨fun a' b ha' hb => by
  rcases k.h a' ha' with ⟨a, ha, e⟩ | hg
  · rw [← e]; exact h.ne a b ha hb
  · have := σ.wf _ (r.m b hb); omega⟩
instance (priority := low) NeAA.new' {A A' B : Option Addr} [k : RowNew σ A A'] [h : NeAA B A] [r : Row σ B n c t E xs] : NeAA B A' := ⟨fun b a' hb ha' => by
  rcases k.h a' ha' with ⟨a, ha, e⟩ | hg
  · rw [← e]; exact h.ne b a hb ha
  · have := σ.wf _ (r.m b hb); omega⟩
instance FreshR.none {σ0 : St} : FreshR σ0 none := ⟨nofun⟩
instance (priority := low) FreshR.new {σ0 σ : St} {A A' : Option Addr} [k : RowNew σ A A'] [h : FreshR σ0 A] [s : Sub σ0 σ] : FreshR σ0 A' :=
  ⟨fun a' ha' => by
    rcases k.h a' ha' with ⟨a, ha, e⟩ | hg
    · rw [← e]; exact h.ge a ha
    · exact Nat.le_trans s.size hg⟩
/-- a row of the call's own, at its end -/
instance SL.out {σ0 : St} [k : Bk σ0 σ σ'] [h : Row σ A n c t E xs] [f : FreshR σ0 A] : SL σ' A n c E xs := by
  have hr : Rd σ A n c E xs := inferInstance
  refine ⟨h.len, hr.le, hr.max, fun x hx => E.wk _ _ _ k.w (fun b hb => k.s.m b ((k.m b).1 hb)) (h.ok x hx), hr.rd.imp id ?_⟩
  rintro ⟨b, o, ha, hc⟩
  refine ⟨b, o, ha, fun hm => ?_, by rw [k.w]; exact σ.wf b (h.m _ ha), by rw [k.w]; exact hc⟩
  have h1 := f.ge _ ha
  have h2 := σ0.wf b ((k.m b).1 hm)
  simp at h1
  omega
/-- what is written no more -/
theorem Row.freeze (h : Row σ A n c t E xs) : ∃ σ' : St, σ'.w = σ.w ∧ NxP σ σ' (.row A t) ∧ SL σ' A n c E xs := by
  have hr : Rd σ A n c E xs := inferInstance
  refine ⟨⟨σ.w, fun b => σ.M b ∧ ∀ a, A = some a → b ≠ a.block, fun b hb => σ.wf b hb.1⟩, rfl, ⟨rfl, rfl, rfl, Nat.le_refl _, fun _ _ _ => rfl, fun _ _ h => h.1, fun b hb hx => ⟨rfl, fun hm => ⟨hm, fun a ha e => hx ⟨a, ha, e.symm⟩⟩⟩, h.typed⟩, h.len, hr.le, hr.max, fun x hx => E.wk σ _ _ rfl (fun _ h => h.1) (h.ok x hx), hr.rd.imp id ?_⟩
  · rintro ⟨b, o, ha, hc⟩
    exact ⟨b, o, ha, fun hm => hm.2 _ ha rfl, σ.wf b (h.m _ ha), hc⟩
end

/-! ### Indices -/
class IdxLt (i n : Nat) : Prop where
  lt : i < n
class LeN (i n : Nat) : Prop where
  le : i ≤ n
instance LeN.refl {n : Nat} : LeN n n := ⟨Nat.le_refl n⟩
instance LeN.zero {n : Nat} : LeN 0 n := ⟨Nat.zero_le n⟩
instance (priority := low) LeN.ofLt {i n : Nat} [h : IdxLt i n] : LeN i n := ⟨Nat.le_of_lt h.lt⟩
class ToNat (j : Int) (i : outParam Nat) : Prop where
  eq : j = (i : Int)
instance ToNat.cast {i : Nat} : ToNat (i : Int) i := ⟨rfl⟩
instance (priority := low) ToNat.lit {i : Nat} : ToNat (no_index (OfNat.ofNat i) : Int) i := ⟨rfl⟩
instance ToNat.zero : ToNat (0 : Int) 0 := ⟨rfl⟩
instance (priority := low) ToNat.add {j k : Int} {i l : Nat} [h : ToNat j i] [g : ToNat k l] : ToNat (j + k) (i + l) := ⟨by rw [h.eq, g.eq]; omega⟩
instance (priority := low) ToNat.sub {j k : Int} {i l : Nat} [h : ToNat j i] [g : ToNat k l] [q : LeN l i] : ToNat (j - k) (i - l) := ⟨by have := q.le; rw [h.eq, g.eq]; omega⟩
instance ToNat.one : ToNat (1 : Int) 1 := ⟨rfl⟩

def slotV {α : Type} (E : Elem α) (A : Option Addr) (i : Nat) : Value := .pointer (A.map (·.add (i * E.sz)))
def cutA {α : Type} (E : Elem α) (A : Option Addr) (l u c : Nat) : Option Addr := if c = l then A else A.map (·.add (l * E.sz))

section
variable {P : Program} {f : Fr} {σ : St} {ty : TypeId} {A B : Option Addr} {n m c d : Nat} {α : Type} {E : Elem α} {xs ys : List α} {t e : TypeId} {bytes : Nat}

instance StepV.indexAddr {x ix : Operand} {k : IntKind} {j : Int} {i : Nat} [h : Ev f x (.slice A n c)] [g : Ev f ix (.int k j)] [r : Rd σ A n c E xs] [u : U P t (.slice e)] [eo : ElemOf P e E bytes] [q : ToNat j i] [l : IdxLt i n] :
    StepV P (.indexAddr t x ix) ty f σ (slotV E A i) := ⟨by
  have hl := l.lt
  rcases r.rd with h0 | ⟨b, o, rfl, _⟩
  · omega
  · have hj : j = (i : Int) := q.eq
    simp [execOp, h.eq, g.eq, Instr.indexAt, asIntOf, run_underlying u.h, eo.ti.run_sizeOf, slotV, hj, hl]⟩

theorem Rd.cells {i : Nat} [Inhabited α] (r : Rd σ A n c E xs) (hi : i < n) : ∃ b o, A = some ⟨b, o, none⟩ ∧ ∀ j, j < E.sz → σ.w.cell? ⟨b, o + i * E.sz + j, none⟩ = (E.val xs[i]!).cells[j]? := by
  rcases r.rd with h0 | ⟨b, o, ha, hc⟩
  · omega
  · refine ⟨b, o, ha, fun j hj => ?_⟩
    have hil : i < xs.length := by rw [r.len]; exact hi
    have h1 := E.flat_get xs i j hil hj
    have hs : j < (E.val xs[i]).cells.size := by rw [E.size]; exact hj
    rw [Array.getElem?_eq_getElem hs] at h1
    rw [getElem!_pos xs i hil, Nat.add_assoc, hc _ _ h1, Array.getElem?_eq_getElem hs]

instance StepV.load_slot [Inhabited α] {x : Operand} {i : Nat} {val : α → Value} [h : Ev f x (slotV E A i)] [r : Rd σ A n c E xs] [l : IdxLt i n] [eo : ElemOf P t E bytes] [fv : FlatV E val] :
    StepV P (.load t x) ty f σ (val xs[i]!) := ⟨by
  obtain ⟨b, o, rfl, hc⟩ := r.cells l.lt
  have hl : LoadV (E.val xs[i]!).cells 0 E.sz E.agg (E.val xs[i]!) := ⟨by rw [E.size]; omega, fun ha => by have := E.shapeA (xs[i]!) ha; rw [Nat.zero_add, ← E.size (xs[i]!), Array.extract_size]; exact this,
    fun ha => by rw [E.shape1 (xs[i]!) ha]; exact ⟨rfl, by rw [← E.size (xs[i]!), E.shape1 (xs[i]!) ha]; rfl⟩⟩
  have hr := run_loadVar_cells' (P := P) (w := σ.w) eo.ti (b := b) (off := o + i * E.sz) (cs := (E.val xs[i]!).cells) (v := E.val xs[i]!) hc hl
  simp only [execOp, h.eq, slotV, Option.map_some, add_at, Instr.loadAt, Instr.sureAddr, Sem.run_bind, Sem.run_pure, Result.andThen_ok, hr, fv.eq]⟩

instance StepV.slice_lo_hi {x lo hi : Operand} {k k' : IntKind} {jl jh : Int} {l u : Nat} [h : Ev f x (.slice A n c)] [g : Ev f lo (.int k jl)] [g' : Ev f hi (.int k' jh)] [r : Rd σ A n c E xs] [uu : U P t (.slice e)] [eo : ElemOf P e E bytes] [q : ToNat jl l] [q' : ToNat jh u] [a1 : LeN l u] [a2 : LeN u n] :
    StepV P (.slice t x (some lo) (some hi) none) ty f σ (.slice (cutA E A l u c) (u - l) (c - l)) := ⟨by
  have h1 := a1.le
  have h2 := Nat.le_trans a2.le r.le
  have e1 := q.eq
  have e2 := q'.eq
  subst e1; subst e2
  simp [execOp, h.eq, g.eq, g'.eq, Instr.sliceAt, Instr.slice, Instr.sliceBounds, Instr.sliceBound, asIntOf, run_underlying uu.h, eo.ti.run_sizeOf, cutA, h1, h2]⟩
instance StepV.slice_lo {x lo : Operand} {k : IntKind} {jl : Int} {l : Nat} [h : Ev f x (.slice A n c)] [g : Ev f lo (.int k jl)] [r : Rd σ A n c E xs] [uu : U P t (.slice e)] [eo : ElemOf P e E bytes] [q : ToNat jl l] [a1 : LeN l n] :
    StepV P (.slice t x (some lo) none none) ty f σ (.slice (cutA E A l n c) (n - l) (c - l)) := ⟨by
  have h1 := a1.le
  have h2 := r.le
  have e1 := q.eq
  subst e1
  simp [execOp, h.eq, g.eq, Instr.sliceAt, Instr.slice, Instr.sliceBounds, Instr.sliceBound, asIntOf, run_underlying uu.h, eo.ti.run_sizeOf, cutA, h1, h2]⟩
instance StepV.slice_hi {x hi : Operand} {k' : IntKind} {jh : Int} {u : Nat} [h : Ev f x (.slice A n c)] [g' : Ev f hi (.int k' jh)] [r : Rd σ A n c E xs] [uu : U P t (.slice e)] [eo : ElemOf P e E bytes] [q' : ToNat jh u] [a2 : LeN u n] :
    StepV P (.slice t x none (some hi) none) ty f σ (.slice (cutA E A 0 u c) (u - 0) (c - 0)) := ⟨by
  have h2 := Nat.le_trans a2.le r.le
  have e2 := q'.eq
  subst e2
  simp [execOp, h.eq, g'.eq, Instr.sliceAt, Instr.slice, Instr.sliceBounds, Instr.sliceBound, asIntOf, run_underlying uu.h, eo.ti.run_sizeOf, cutA, h2]⟩
end
end Go.Proofs.Ytchdbmnikaacdaa

/- The engine, part 5: slices that are made, written, appended to, copied into.  -/
set_option linter.all false
namespace Go.Proofs.Ytchdbmnikaacdaa
open Go Go.RowKit

section
variable {α : Type} (E : Elem α)
theorem flat_replicate_get (z : α) (n : Nat) : ∀ j, j < n * E.sz → (E.flat (List.replicate n z))[j]? = (E.val z).cells[j % E.sz]? := by
  intro j hj
  have h1 : j / E.sz < n := Nat.div_lt_of_lt_mul (by rw [Nat.mul_comm]; exact hj)
  have h2 : j % E.sz < E.sz := Nat.mod_lt _ E.pos
  have := E.flat_get (List.replicate n z) (j / E.sz) (j % E.sz) (by simpa using h1) h2
  rw [Nat.mul_comm, Nat.div_add_mod] at this
  simpa using this
theorem madeCells_flat (z : α) (n : Nat) {cs : Array Value} (h : cs = (E.val z).cells) : (madeCells cs (n * E.sz)).toList = E.flat (List.replicate n z) := by
  subst h
  apply List.ext_getElem?
  intro j
  by_cases hj : j < n * E.sz
  · rw [flat_replicate_get E z n j hj]
    have h2 : j % E.sz < (E.val z).cells.size := by rw [E.size]; exact Nat.mod_lt _ E.pos
    simp [madeCells, hj, E.size, h2]
    rw [Array.getElem?_eq_getElem h2]
    exact congrArg some (getElem!_pos (E.val z).cells (j % E.sz) h2)
  · rw [List.getElem?_eq_none (by simp [size_madeCells]; omega), List.getElem?_eq_none (by rw [E.flat_length]; simp; omega)]
theorem fill_parts (sz : Nat) : ∀ (vs : List Value) (k : Nat) (cells : Array Value), (∀ v ∈ vs, v.cells.size = sz) → (k + vs.length) * sz ≤ cells.size →
    Instr.fill (fun i => some (i * sz, sz)) cells (vs.zipIdx k |>.map fun (v, i) => (i, v)) = some (cells.toList.take (k * sz) ++ vs.flatMap (fun v => v.cells.toList) ++ cells.toList.drop ((k + vs.length) * sz)).toArray
  | [], k, cells, _, h => by simp [Instr.fill]
  | v :: vs, k, cells, h, hl => by
    have hv := h v (by simp)
    have hl' : (k + 1 + vs.length) * sz ≤ cells.size := by rw [List.length_cons] at hl; rwa [Nat.add_right_comm, Nat.add_assoc]
    have hk1 : k * sz + sz = (k + 1) * sz := by rw [Nat.add_mul]; omega
    have hk2 : (k + 1) * sz ≤ (k + 1 + vs.length) * sz := Nat.mul_le_mul_right _ (by omega)
    have key : ∀ (cs : List Value) (off : Nat) (a : Array Value), off + cs.length ≤ a.size → (cs.zipIdx.foldl (fun a (c, j) => a.setIfInBounds (off + j) c) a) = (a.toList.take off ++ cs ++ a.toList.drop (off + cs.length)).toArray := by
      intro cs off a hle
      have gen : ∀ (cs : List Value) (i : Nat) (a : Array Value), off + i + cs.length ≤ a.size → (cs.zipIdx i).foldl (fun a (c, j) => a.setIfInBounds (off + j) c) a = (a.toList.take (off + i) ++ cs ++ a.toList.drop (off + i + cs.length)).toArray := by
        intro cs
        induction cs with
        | nil => intro i a _; simp
        | cons c cs ih =>
          intro i a hle
          rw [List.zipIdx_cons, List.foldl_cons, ih (i + 1) _ (by simp at hle ⊢; omega)]
          have e := list_seg_step a.toList (off + i) c cs (by simp at hle ⊢; omega)
          simpa [Array.toList_setIfInBounds, Nat.add_assoc] using congrArg List.toArray e
      have := gen cs 0 a (by simpa using hle)
      simpa using this
    have hs := key v.cells.toList (k * sz) cells (by simp [hv]; omega)
    simp only [List.zipIdx_cons, List.map_cons, Instr.fill, hv]
    rw [if_neg (by simp; omega)]
    have e2 : v.cells.zipIdx.foldl (fun cs (c, j) => cs.setIfInBounds (k * sz + j) c) cells = (cells.toList.take (k * sz) ++ v.cells.toList ++ cells.toList.drop (k * sz + v.cells.toList.length)).toArray := by
      rw [← hs, ← Array.foldl_toList]; simp
    rw [e2, fill_parts sz vs (k + 1) _ (fun u hu => h u (by simp [hu])) (by simp [hv]; omega)]
    congr 2
    have hlen : v.cells.toList.length = sz := by simpa using hv
    have hlt : (cells.toList.take (k * sz)).length = k * sz := by simp; omega
    simp only [List.toList_toArray, hlen, hk1, List.flatMap_cons, List.length_cons]
    rw [List.take_append_of_le_length (by simp [hlen]; omega), List.take_of_length_le (by simp [hlen]; omega)]
    rw [List.drop_append, List.drop_eq_nil_of_le («as» := cells.toList.take (k * sz) ++ v.cells.toList) (by simp [hlen]; omega)]
    have : (cells.toList.take (k * sz) ++ v.cells.toList).length = (k + 1) * sz := by simp [hlen]; omega
    rw [this, List.drop_drop]
    have e3 : (k + 1) * sz + ((k + 1 + vs.length) * sz - (k + 1) * sz) = (k + (vs.length + 1)) * sz := by
      rw [show k + (vs.length + 1) = k + 1 + vs.length by omega]; omega
    rw [e3]; simp
end

section
variable {P : Program} {f : Fr} {σ σ' : St} {ty : TypeId} {A B : Option Addr} {n m c d : Nat} {α : Type} {E : Elem α} {xs ys : List α} {t t' e : TypeId} {bytes : Nat}

theorem SL.cut_ {l u : Nat} (h : SL σ A n c E xs) (h1 : l ≤ u) (h2 : u ≤ n) : SL σ (cutA E A l u c) (u - l) (c - l) E ((xs.drop l).take (u - l)) := by
  have hl := h.len; have hm := h.max; have hc := h.le
  refine ⟨by simp; omega, by omega, by omega, fun x hx => h.ok x (List.mem_of_mem_drop (List.mem_of_mem_take hx)), ?_⟩
  by_cases hul : u - l = 0
  · exact .inl hul
  · refine .inr ?_
    rcases h.rd with h0 | ⟨b, o, ha, hb, hlt, hc⟩
    · omega
    · unfold cutA
      rw [if_neg (by omega)]
      refine ⟨b, o + l * E.sz, by rw [ha]; simp [add_at], hb, hlt, fun j v hj => ?_⟩
      rw [← E.flat_take, List.getElem?_take] at hj
      split at hj
      · rw [← E.flat_drop, List.getElem?_drop] at hj
        rw [Nat.add_assoc]; exact hc _ _ hj
      · cases hj
instance SL.cut {l u : Nat} [h : SL σ A n c E xs] [a1 : LeN l u] [a2 : LeN u n] : SL σ (cutA E A l u c) (u - l) (c - l) E ((xs.drop l).take (u - l)) := h.cut_ a1.le a2.le

/-- the world behind an append or a make, as a state -/
theorem st_grown {A' : Option Addr} {w' : World} {n' c' : Nat} (hm : ∀ a, A = some a → σ.M a.block) (hty : ∀ a, A = some a → ∃ cs fz, σ.w.heap[a.block]? = some (.cells cs t fz))
    (hg : σ.w.grownBy w' (Value.ownBlock (.slice A n c))) (hz : ∀ a, A' = some a → a.block < w'.heap.size) (hat : (Value.slice A' n' c').ownBlock = (Value.slice A n c).ownBlock ∨ (Value.slice A' n' c').ownBlock = some σ.w.heap.size) :
    ∃ σ' : St, σ'.w = w' ∧ NxP σ σ' (.row A t) ∧ (∀ a, A' = some a → σ'.M a.block) ∧ RowNew σ A A' := by
  have hob : ∀ (B : Option Addr) (x y : Nat), (Value.slice B x y).ownBlock = B.map (·.block) := fun B x y => by cases B <;> rfl
  simp only [hob] at hg hat
  have hwf : ∀ b, (σ.M b ∨ ∃ a, A' = some a ∧ a.block = b) → b < w'.heap.size := by
    rintro b (h | ⟨a, ha, rfl⟩)
    · exact Nat.lt_of_lt_of_le (σ.wf b h) hg.size
    · exact hz a ha
  have hin : ∀ a, A' = some a → (∃ a0, A = some a0 ∧ a0.block = a.block) ∨ a.block = σ.w.heap.size := by
    intro a ha
    rw [ha] at hat
    rcases hat with e | e
    · cases hA : A with
      | none => rw [hA] at e; cases e
      | some a0 => rw [hA] at e; simp at e; exact .inl ⟨a0, rfl, e.symm⟩
    · simp at e; exact .inr e
  refine ⟨⟨w', fun b => σ.M b ∨ ∃ a, A' = some a ∧ a.block = b, hwf⟩, rfl, ⟨hg.os, hg.tape, hg.output, hg.size, fun b hb hnm => hg.block b hb (fun e => ?_), ?_, fun b hb hx => ⟨hg.block b hb (fun e => hx ?_), fun h => .inl h⟩, hty⟩, fun a ha => .inr ⟨a, ha, rfl⟩, ⟨fun a' ha' => ?_⟩⟩
  · cases hA : A with
    | none => rw [hA] at e; cases e
    | some a0 => rw [hA] at e; simp at e; subst e; exact hnm (hm a0 hA)
  · rintro b hb (h | ⟨a, ha, rfl⟩)
    · exact h
    · rcases hin a ha with ⟨a0, h0, e⟩ | e
      · rw [← e]; exact hm a0 h0
      · omega
  · cases hA : A with
    | none => rw [hA] at e; cases e
    | some a0 => rw [hA] at e; simp at e; exact ⟨a0, rfl, e.symm⟩
  · rcases hin a' ha' with h | h
    · exact .inl h
    · exact .inr (by omega)

theorem Elem.flat_size (E : Elem α) (xs : List α) : (E.flat xs).toArray.size = xs.length * E.sz := by simp [E.flat_length]
theorem zeroCells_flat (E : Elem α) (z : α) (n : Nat) {cs : Array Value} (h : cs = (E.val z).cells) : Builtin.zeroCells cs n = (E.flat (List.replicate n z)).toArray := by
  have h2 : cs.size = E.sz := by rw [h, E.size]
  have := madeCells_flat E z n h
  apply Array.ext'
  rw [← this]
  simp [Builtin.zeroCells, madeCells, h2]
/-- what stands in a row's block, a part of it written -/
theorem flat_splice (E : Elem α) (zs ys : List α) (u : Nat) (h : u + ys.length ≤ zs.length) :
    ((E.flat zs).toArray.toList.take (u * E.sz) ++ E.flat ys ++ (E.flat zs).toArray.toList.drop (u * E.sz + (E.flat ys).length)).toArray = (E.flat (zs.take u ++ ys ++ zs.drop (u + ys.length))).toArray := by
  rw [E.flat_append, E.flat_append, ← E.flat_take, ← E.flat_drop, E.flat_length, Nat.add_mul]
theorem Row.mk_ {A' : Option Addr} {n' c' b : Nat} {zs : List α} (hl : xs.length = n') (hle : n' ≤ c') (hmx : c' ≤ maxLen) (ea : A' = some ⟨b, 0, none⟩) (hh : σ.w.heap[b]? = some (.cells (E.flat zs).toArray t (0, 0))) (hz : zs.length = c') (hx : zs.take n' = xs) (hok : ∀ z ∈ zs, E.ok σ z) (hm : σ.M b) : Row σ A' n' c' t E xs :=
  ⟨hl, fun x h => hok x (by rw [← hx] at h; exact List.mem_of_mem_take h), hle, hmx, .inr ⟨b, zs, ea, hh, hz, hx, hok⟩, fun a ha => by rw [ea] at ha; injection ha with ha; subst ha; exact hm⟩
/-- a row's block turns -/
theorem Row.set_ {b : Nat} {zs zs' : List α} (r : Row σ A n c t E xs) (ea : A = some ⟨b, 0, none⟩) (hh : σ.w.heap[b]? = some (.cells (E.flat zs).toArray t (0, 0))) {n' : Nat} {ys : List α} (hz : zs'.length = c) (hx : zs'.take n' = ys) (hle : n' ≤ c) (hok : ∀ z ∈ zs', E.ok σ z) :
    ∃ σ' : St, σ'.w = σ.w.setRow b (E.flat zs').toArray ∧ NxP σ σ' (.row A t) ∧ Row σ' A n' c t E ys := by
  obtain ⟨σ', hw, hnx, ho⟩ := st_set (σ := σ) (b := b) (t := t) (cs := (E.flat zs).toArray) ⟨r.m _ ea, hh⟩ (E.flat zs').toArray
  have hn : NxP σ σ' (.row A t) := ⟨hnx.os, hnx.tape, hnx.output, hnx.size, hnx.imm, hnx.mm, fun k hk hx => hnx.own k hk (fun e => hx ⟨_, ea, e.symm⟩), r.typed⟩
  exact ⟨σ', hw, hn, Row.mk_ (by rw [← hx]; simp; omega) hle r.max ea ho.h hz hx (fun z h => E.nx _ _ _ _ hn (hok z h)) ho.m⟩

/-- append of a slice to a row of the call's own, from place u on -/
theorem append_row {z : α} {u : Nat} (r : Row σ A n c e E xs) (s : Rd σ B m d E ys) (ut : U P t (.slice e)) (eo : ElemOf P e E bytes) (ze : ZeroE P e E z) (hu : u ≤ n) (hb : (u + m) * bytes ≤ 140737488355328) (hmx0 : u + m ≤ 9223372036854775807) :
    ∃ σ' A' c', (Builtin.append_ #[t, t] ty #[.slice A u c, .slice B m d]).run P σ.w = .ok (.slice A' (u + m) c') σ'.w ∧ NxP σ σ' (.row A e) ∧ RowNew σ A A' ∧ Row σ' A' (u + m) c' e E (xs.take u ++ ys) ∧ (u + m ≤ c → A' = A ∧ c' = c) := by
  have hmx : u + m ≤ maxLen := by simp only [maxLen]; omega
  obtain ⟨d0, i, hd0, hag, hi, hsz, hby⟩ := eo.ti.h
  obtain ⟨i', zv, hi', hz, hzc⟩ := ze.h
  rw [hi] at hi'; injection hi' with hi'; subst hi'
  have hlen : xs.length = n := r.len
  have hl2 : ys.length = m := s.len
  have hpos := E.pos
  have hzs : zv.cells.size = i.size := by rw [hzc, E.size, hsz]
  have cells_ys : ∀ ad, B = some ad → ∀ j v, (E.flat ys)[j]? = some v → σ.w.cell? (ad.add j) = some v := by
    intro ad hB j v hv
    rcases s.rd with h0 | ⟨b, o, ha, hc⟩
    · have hy : ys = [] := List.eq_nil_of_length_eq_zero (by omega)
      subst hy
      simp [Elem.flat] at hv
    · rw [hB] at ha; injection ha with ha; subst ha
      rw [add_at]; exact hc j v hv
  have hlx : (xs.take u ++ ys).length = u + m := by simp [hl2]; omega
  have okx : ∀ {σ' : St} {X : Xs}, NxP σ σ' X → ∀ k, ∀ x ∈ xs.take u ++ ys ++ List.replicate k z, E.ok σ' x := by
    intro σ' X hn k x hx
    rcases List.mem_append.1 hx with hx | hx
    · rcases List.mem_append.1 hx with hx | hx
      · exact E.nx _ _ _ _ hn (r.ok x (List.mem_of_mem_take hx))
      · exact E.nx _ _ _ _ hn (s.ok x hx)
    · rw [(List.mem_replicate.1 hx).2]; exact ze.ok _
  -- what growing comes to
  have grown : ∀ old, old < u + m → ∃ σ', σ'.w = σ.w.drew.alloc (.cells ((E.flat (xs.take u)).toArray ++ (E.flat ys).toArray ++ Builtin.zeroCells zv.cells (grownCap σ.w (u + m) old e - (u + m))) e) ∧ NxP σ σ' (.row A e) ∧
      RowNew σ A (some ⟨σ.w.heap.size, 0, none⟩) ∧ Row σ' (some ⟨σ.w.heap.size, 0, none⟩) (u + m) (grownCap σ.w (u + m) old e) e E (xs.take u ++ ys) := by
    intro old ho
    have hge := grownCap_ge σ.w (u + m) old e
    have hcm : grownCap σ.w (u + m) old e ≤ maxLen := grownCap_le_maxLen σ.w (u + m) old e hmx
    obtain ⟨σ1, hw1, hn1⟩ := st_drew σ (σ.w.drawn + 1)
    obtain ⟨σ2, hw2, hn2, hm2, hm2', ho2, hs2⟩ := st_new σ1 (.cells ((E.flat (xs.take u)).toArray ++ (E.flat ys).toArray ++ Builtin.zeroCells zv.cells (grownCap σ.w (u + m) old e - (u + m))) e) True
    have hz1 : σ1.w.heap.size = σ.w.heap.size := by rw [hw1]
    have hd : σ1.w = σ.w.drew := hw1
    have hn3 : NxP σ σ2 (.row A e) := ⟨hn2.os.trans hn1.os, hn2.tape.trans hn1.tape, hn2.output.trans hn1.output, Nat.le_trans hn1.size hn2.size, fun b hb hb' => (hn2.imm b (by omega) (fun h => hb' (hn1.mm b hb h))).trans (hn1.imm b hb hb'),
      fun b hb h => hn1.mm b hb (hn2.mm b (by omega) h), fun b hb _ => ⟨((hn2.own b (by omega) id).1).trans (hn1.own b hb id).1, fun h => (hn2.own b (by omega) id).2 ((hn1.own b hb id).2 h)⟩, r.typed⟩
    have hfl : (E.flat (xs.take u)).toArray ++ (E.flat ys).toArray ++ Builtin.zeroCells zv.cells (grownCap σ.w (u + m) old e - (u + m)) = (E.flat (xs.take u ++ ys ++ List.replicate (grownCap σ.w (u + m) old e - (u + m)) z)).toArray := by
      rw [zeroCells_flat E z _ hzc]; simp [E.flat_append]
    refine ⟨σ2, by rw [hw2, hd], hn3, ⟨fun a' ha' => ?_⟩, Row.mk_ hlx hge hcm rfl (by rw [hz1] at ho2; rw [ho2, hfl]) (by simp [hlx, hl2]; omega) (by rw [List.take_append_of_le_length (by omega), List.take_of_length_le (by omega)]) (okx hn3 _) (by rw [hz1] at hm2; exact hm2.2 trivial)⟩
    injection ha' with ha'; subst ha'; exact .inr (Nat.le_refl _)
  rcases r.full with ⟨ea, hc0⟩ | ⟨b, zs, ea, hh, hzl, hzt, hzok⟩
  · have hle := r.le
    have hu0 : u = 0 := by omega
    have hn0 : n = 0 := by omega
    subst ea; subst hc0; subst hu0
    by_cases hm : m = 0
    · subst hm
      have hy : ys = [] := List.eq_nil_of_length_eq_zero hl2
      subst hy
      refine ⟨σ, none, 0, ?_, ⟨rfl, rfl, rfl, Nat.le_refl _, fun _ _ _ => rfl, fun _ _ h => h, fun _ _ _ => ⟨rfl, id⟩, nofun⟩, ⟨nofun⟩, ⟨rfl, by simp, Nat.le_refl _, r.max, .inl ⟨rfl, rfl⟩, nofun⟩, fun _ => ⟨rfl, rfl⟩⟩
      cases B <;> simp [Builtin.append_, run_underlying ut.h, sizeOf, typeInfo, hi, Builtin.lenOf, Builtin.firstCells, loadCells, loadCellsFrom]
    · have hB : ∃ ad, B = some ad := by
        rcases s.rd with h0 | ⟨b, o, ha, _⟩
        · omega
        · exact ⟨_, ha⟩
      obtain ⟨ad, rfl⟩ := hB
      have hr := run_append_nil (P := P) σ.w t ty e i zv ut.h hi hz ad m d (E.flat ys) (by rw [E.flat_length, hl2, hsz]) (cells_ys ad rfl) (by omega) (by omega) (by rw [hby]; simp only [Nat.zero_add] at hb; omega)
      obtain ⟨σ', hw, hn, hrn, hrow⟩ := grown 0 (by omega)
      simp only [Nat.zero_add, List.take_zero, Elem.flat_nil, List.nil_append, Array.empty_append] at hr hw hrow ⊢
      refine ⟨σ', _, _, ?_, hn, hrn, hrow, fun h => by omega⟩
      rw [hw]; exact hr
  · subst ea
    have hle := r.le
    have hfx : E.flat (xs.take u) = (E.flat zs).take (u * E.sz) := by rw [E.flat_take, ← hzt, List.take_take, Nat.min_eq_left hu]
    by_cases hroom : u + m ≤ c
    · have hsplice := flat_splice E zs ys u (by omega)
      obtain ⟨σ', hw, hn, hrow⟩ := r.set_ (n' := u + m) (zs' := zs.take u ++ ys ++ zs.drop (u + ys.length)) (ys := xs.take u ++ ys) rfl hh (by simp; omega)
        (by rw [List.take_append_of_le_length (by simp [hl2]; omega), List.take_of_length_le (by simp [hl2]; omega), ← hzt, List.take_take, Nat.min_eq_left hu]) hroom (fun z' hz' => by
          rcases List.mem_append.1 hz' with h | h
          · rcases List.mem_append.1 h with h | h
            · exact hzok z' (List.mem_of_mem_take h)
            · exact s.ok z' h
          · exact hzok z' (List.mem_of_mem_drop h))
      refine ⟨σ', _, _, ?_, hn, ⟨fun a' ha' => .inl ⟨a', ha', rfl⟩⟩, hrow, fun _ => ⟨rfl, rfl⟩⟩
      rw [hw, ← hsplice]
      cases B with
      | none =>
        have hm0 : m = 0 := by rcases s.rd with h0 | ⟨b, o, ha, _⟩; exact h0; cases ha
        have hy : ys = [] := List.eq_nil_of_length_eq_zero (by omega)
        subst hy
        subst hm0
        have e1 : (List.take (u * E.sz) (E.flat zs).toArray.toList ++ E.flat [] ++ List.drop (u * E.sz + (E.flat ([] : List α)).length) (E.flat zs).toArray.toList).toArray = (E.flat zs).toArray := by simp [Elem.flat_nil]
        have hroom' : u ≤ c := by omega
        rw [e1, setRow_self _ _ _ _ _ hh]
        simp [Builtin.append_, run_underlying ut.h, sizeOf, typeInfo, hi, Builtin.lenOf, Builtin.firstCells, hroom', storeCells]
      | some ad =>
        have hr := run_append_room (P := P) σ.w t ty e i ut.h hi b u c (E.flat zs).toArray hh ad m d (E.flat ys) (by rw [E.flat_length, hl2, hsz]) (cells_ys ad rfl) (E.flat_one) hroom (by rw [E.flat_size, E.flat_length, hl2, hzl, hsz, ← Nat.add_mul]; exact Nat.mul_le_mul_right _ hroom)
        rw [hsz] at hr
        exact hr
    · have hB : ∃ ad, B = some ad := by
        rcases s.rd with h0 | ⟨b, o, ha, _⟩
        · omega
        · exact ⟨_, ha⟩
      obtain ⟨ad, rfl⟩ := hB
      have holds : ∀ j v, (E.flat (xs.take u))[j]? = some v → σ.w.cell? ((⟨b, 0, none⟩ : Addr).add j) = some v := by
        intro j v hv
        rw [add_at, Nat.zero_add, cell_own hh]
        rw [hfx, List.getElem?_take] at hv
        split at hv
        · simpa using hv
        · cases hv
      have hr := run_append_grow (P := P) σ.w t ty e i zv ut.h hi hz ⟨b, 0, none⟩ u c (E.flat (xs.take u)) (by rw [E.flat_length, hsz]; congr 1; simp; omega) holds ad m d (E.flat ys) (by rw [E.flat_length, hl2, hsz]) (cells_ys ad rfl) (by omega) (by omega) (by rw [hby]; exact growslice_fits (by omega) hb)
      obtain ⟨σ', hw, hn, hrn, hrow⟩ := grown c (by omega)
      exact ⟨σ', _, _, by rw [hw]; exact hr, hn, hrn, hrow, fun h => by omega⟩
/-- append of a slice to a row of the call's own -/
instance Step.append {z : α} {x y : Operand} [h : Ev f x (.slice A n c)] [g : Ev f y (.slice B m d)] [u : U P t (.slice e)] [eo : ElemOf P e E bytes] [rq : RowQ σ A n c e E xs] [s : Rd σ B m d E ys] [ze : ZeroE P e E z] :
    Step P (.call { callee := .builtin .append, args := #[x, y], argTypes := #[t, t] }) ty f σ
      (fun K _ => ((n + m) * bytes ≤ 140737488355328 ∧ n + m ≤ 9223372036854775807) ∧ ∀ (σ' : St) (A' : Option Addr) (c' : Nat), Nx σ σ' (.row A e) → RowNew σ A A' → Row σ' A' (n + m) c' e E (xs ++ ys) → K (.slice A' (n + m) c') σ') := ⟨fun K E' hK => by
  obtain ⟨⟨hb, hmx0⟩, hK⟩ := hK
  have r := rq.row
  obtain ⟨σ', A', c', hrun, hn, hrn, hrow, _⟩ := append_row (ty := ty) r s u eo ze (Nat.le_refl n) hb hmx0
  have hr : (execOp (evo f) ⟨none, .call { callee := .builtin .append, args := #[x, y], argTypes := #[t, t] }, ty, "", #[], none⟩).run P σ.w = .ok (.value (.slice A' (n + m) c')) σ'.w := by
    simp [execOp, resolve, h.eq, g.eq, invoke, builtin, hrun]
  unfold OpW; rw [hr]
  rw [List.take_of_length_le (by rw [r.len]; exact Nat.le_refl _)] at hrow
  exact ⟨σ', rfl, hK σ' A' c' ⟨hn⟩ hrn hrow⟩⟩
/-- append in place, to the first ones of a row -/
instance (priority := low) Step.append_pre {z : α} {u c1 : Nat} {x y : Operand} [h : Ev f x (.slice A u c1)] [g : Ev f y (.slice B m d)] [r : Row σ A n c e E xs] [q : EqN c1 c] [l1 : LeN u n] [l2 : LeN (u + m) c] [s : Rd σ B m d E ys] [ut : U P t (.slice e)] [eo : ElemOf P e E bytes] [ze : ZeroE P e E z] :
    Step P (.call { callee := .builtin .append, args := #[x, y], argTypes := #[t, t] }) ty f σ
      (fun K _ => ((u + m) * bytes ≤ 140737488355328 ∧ u + m ≤ 9223372036854775807) ∧ ∀ (σ' : St), Nx σ σ' (.row A e) → Row σ' A (u + m) c e E (xs.take u ++ ys) → K (.slice A (u + m) c) σ') := ⟨fun K E' hK => by
  obtain ⟨⟨hb, hmx0⟩, hK⟩ := hK
  have e1 := q.eq
  subst e1
  obtain ⟨σ', A', c', hrun, hn, hrn, hrow, hin⟩ := append_row (ty := ty) r s ut eo ze l1.le hb hmx0
  obtain ⟨e2, e3⟩ := hin l2.le
  subst e2; subst e3
  have hr : (execOp (evo f) ⟨none, .call { callee := .builtin .append, args := #[x, y], argTypes := #[t, t] }, ty, "", #[], none⟩).run P σ.w = .ok (.value (.slice A' (u + m) c')) σ'.w := by
    simp [execOp, resolve, h.eq, g.eq, invoke, builtin, hrun]
  unfold OpW; rw [hr]
  exact ⟨σ', rfl, hK σ' ⟨hn⟩ hrow⟩⟩

/-- make([]T, n) -/
instance Step.make {z : α} {x y : Operand} {k k' : IntKind} {j : Int} [h : Ev f x (.int k j)] [g : Ev f y (.int k' j)] [q : ToNat j n] [u : U P t (.slice e)] [eo : ElemOf P e E bytes] [ze : ZeroE P e E z] :
    Step P (.makeSlice t x y) ty f σ
      (fun K _ => (n * bytes ≤ 140737488355328 ∧ n ≤ 9223372036854775807) ∧ ∀ (σ' : St) (A' : Option Addr), Nx σ σ' .no → RowNew σ none A' → Row σ' A' n n e E (List.replicate n z) → K (.slice A' n n) σ') := ⟨fun K E' hK => by
  obtain ⟨⟨hb, hmx0⟩, hK⟩ := hK
  have hmx : n ≤ maxLen := by simp only [maxLen]; omega
  obtain ⟨d0, i, hd0, hag, hi, hsz, hby⟩ := eo.ti.h
  obtain ⟨i', zv, hi', hz, hzc⟩ := ze.h
  rw [hi] at hi'; injection hi' with hi'; subst hi'
  have hj := q.eq
  subst hj
  have h63 : (n : Int) ≤ 9223372036854775807 := by
    have hm' := hmx
    simp only [maxLen] at hm'
    omega
  have hbb : (i.bytes : Int) * (n : Int) ≤ 281474976710656 := by
    rw [hby, ← Int.natCast_mul, Nat.mul_comm]; omega
  have hrun := run_make (P := P) σ.w t e i zv u.h hi hz k k' (n : Int) (n : Int) (by omega) (Int.le_refl _) hbb h63
  simp only [Int.toNat_natCast, hsz] at hrun
  obtain ⟨σ', hw, hn, hm, _, ho, hs⟩ := st_new σ (.cells (madeCells zv.cells (n * E.sz)) e) True
  have hr : (execOp (evo f) ⟨none, .makeSlice t x y, ty, "", #[], none⟩).run P σ.w = .ok (.value (.slice (some ⟨σ.w.heap.size, 0, none⟩) n n)) (σ.w.alloc (.cells (madeCells zv.cells (n * E.sz)) e)) := by
    simp [execOp, h.eq, g.eq, hrun]
  unfold OpW; rw [hr]
  have hfl := madeCells_flat E z n hzc
  refine ⟨σ', hw, hK σ' _ ⟨hn⟩ ⟨fun a' ha' => ?_⟩ (Row.mk_ (zs := List.replicate n z) (by simp) (Nat.le_refl _) hmx rfl (by rw [ho, ← hfl]) (by simp) (by simp) (fun x hx => by rw [(List.mem_replicate.1 hx).2]; exact ze.ok _) (hm.2 trivial))⟩
  injection ha' with ha'; subst ha'; exact .inr (Nat.le_refl _)⟩

class SmallE {α : Type} (E : Elem α) : Prop where
  le : E.sz ≤ 1000
class LenV (vs : List Value) (n : outParam Nat) : Prop where
  eq : vs.length = n
instance LenV.nil : LenV [] 0 := ⟨rfl⟩
instance LenV.one {a : Value} : LenV [a] 1 := ⟨rfl⟩
instance LenV.two {a b : Value} : LenV [a, b] 2 := ⟨rfl⟩
instance LenV.three {a b c : Value} : LenV [a, b, c] 3 := ⟨rfl⟩
instance LenV.four {a b c d : Value} : LenV [a, b, c, d] 4 := ⟨rfl⟩
/-- a literal, all elements told -/
class PartsL (f : Fr) (k : Nat) (ps : List (Nat × Operand)) (vs : outParam (List Value)) : Prop where
  eq : ps.map (fun p => (p.1, evo f p.2)) = (vs.zipIdx k).map fun (v, i) => (i, v)
instance PartsL.nil {k : Nat} : PartsL f k [] [] := ⟨rfl⟩
instance PartsL.cons {k : Nat} {x : Operand} {ps : List (Nat × Operand)} {v : Value} {vs : List Value} [h : Ev f x v] [g : PartsL f (k + 1) ps vs] : PartsL f k ((k, x) :: ps) (v :: vs) :=
  ⟨by simp [h.eq, g.eq]⟩

theorem run_buildSlice {len : Nat} {vs : List Value} {z : α} (u : U P t (.slice e)) (eo : ElemOf P e E bytes) (ze : ZeroE P e E z) (hl : vs.length = len) (hv : ∀ v ∈ vs, v.cells.size = E.sz) (hb : len * E.sz ≤ 16777216) (ps : Array (Nat × Value))
    (hp : ps.toList = vs.zipIdx.map fun (v, i) => (i, v)) (w : World) :
    (Instr.buildSlice t len ps).run P w = .ok (.slice (some ⟨w.heap.size, 0, none⟩) len len) (w.alloc (.cells (vs.flatMap (fun v => v.cells.toList)).toArray e)) := by
  obtain ⟨d0, i, hd0, hag, hi, hsz, hby⟩ := eo.ti.h
  obtain ⟨i', zv, hi', hz, hzc⟩ := ze.h
  rw [hi] at hi'; injection hi' with hi'; subst hi'
  have hf : ∀ cells : Array Value, cells.size = len * E.sz → Instr.fill (fun i => some (i * E.sz, E.sz)) cells ps.toList = some (vs.flatMap (fun v => v.cells.toList)).toArray := by
    intro cells hc
    rw [hp, fill_parts E.sz vs 0 cells hv (by simp [hl, hc])]
    simp [hl, hc]
  unfold Instr.buildSlice
  simp only [Sem.run_bind, run_underlying u.h, Result.andThen_ok, eo.ti.run_sizeOf]
  rw [if_neg (by omega)]
  by_cases h0 : len * E.sz = 0
  · simp [h0, hf, newRow, newObj, Sem.run]
  · simp [h0, zeroValue, typeInfo, hi, hz, hf, newRow, newObj, Sem.run]

theorem flat_map (xs : List α) : E.flat xs = (xs.map E.val).flatMap (fun v => v.cells.toList) := by simp [Elem.flat, List.flatMap_map]

/-- a literal of at least one element is read alone -/
instance Step.buildSlice {z : α} {len : Nat} {ps : List (Nat × Operand)} {vs : List Value} [pl : PartsL f 0 ps vs] [u : U P t (.slice e)] [eo : ElemOf P e E bytes] [ze : ZeroE P e E z] [el : EncL σ E vs xs] [ln : LenV vs len] [lb : EqB (Nat.ble len 10000) true] [se : SmallE E] :
    Step P (.buildSlice t len ps.toArray) ty f σ (fun K _ => ∀ (σ' : St) (A' : Option Addr), Nx σ σ' .no → SL σ' A' len len E xs → K (.slice A' len len) σ') := ⟨fun K E' hK => by
  have h1 := ln.eq
  have h3 := Nat.le_of_ble_eq_true lb.eq
  have h2 : len * E.sz ≤ 16777216 := Nat.le_trans (Nat.mul_le_mul h3 se.le) (by decide)
  obtain ⟨σ', hw, hn, hm, _, ho, hs⟩ := st_new σ (.cells (vs.flatMap (fun v => v.cells.toList)).toArray e) False
  have hvs : ∀ v ∈ vs, v.cells.size = E.sz := by
    intro v hv; rw [el.eq] at hv; obtain ⟨x, _, rfl⟩ := List.mem_map.1 hv; exact E.size x
  have hr : (execOp (evo f) ⟨none, .buildSlice t len ps.toArray, ty, "", #[], none⟩).run P σ.w = .ok (.value (.slice (some ⟨σ.w.heap.size, 0, none⟩) len len)) (σ.w.alloc (.cells (vs.flatMap (fun v => v.cells.toList)).toArray e)) := by
    have hp : (ps.toArray.map fun (i, x) => (i, evo f x)).toList = vs.zipIdx.map fun (v, i) => (i, v) := by
      simpa using pl.eq
    simp only [execOp, Sem.run_bind, run_buildSlice u eo ze h1 hvs h2 _ hp]; rfl
  unfold OpW; rw [hr]
  have hxl : xs.length = len := by rw [← h1, el.eq]; simp
  refine ⟨σ', hw, hK σ' _ ⟨hn⟩ ⟨hxl, Nat.le_refl _, by omega, fun x hx => E.nx _ _ _ _ hn (el.ok x hx), ?_⟩⟩
  by_cases h0 : len = 0
  · exact .inl h0
  · refine .inr ⟨σ.w.heap.size, 0, rfl, fun h => ?_, by omega, fun j v hj => ?_⟩
    · exact hm.1 h
    · rw [cell_own ho, Nat.zero_add]
      rw [flat_map, ← el.eq] at hj
      simpa using hj⟩

/-- an empty literal: a row of the call's own -/
instance (priority := high) Step.buildSlice0 {z : α} [u : U P t (.slice e)] [eo : ElemOf P e E bytes] [ze : ZeroE P e E z] :
    Step P (.buildSlice t 0 #[]) ty f σ (fun K _ => ∀ (σ' : St) (A' : Option Addr), Nx σ σ' .no → RowNew σ none A' → Row σ' A' 0 0 e E [] → K (.slice A' 0 0) σ') := ⟨fun K E' hK => by
  obtain ⟨σ', hw, hn, hm, _, ho, hs⟩ := st_new σ (.cells #[] e) True
  have hrun := run_buildSlice (P := P) (vs := []) (len := 0) u eo ze rfl (by simp) (by omega) #[] rfl σ.w
  have hr : (execOp (evo f) ⟨none, .buildSlice t 0 #[], ty, "", #[], none⟩).run P σ.w = .ok (.value (.slice (some ⟨σ.w.heap.size, 0, none⟩) 0 0)) (σ.w.alloc (.cells #[] e)) := by
    simp only [execOp, Sem.run_bind, List.map_toArray, List.map_nil, Array.map_empty]
    rw [hrun]; rfl
  unfold OpW; rw [hr]
  refine ⟨σ', hw, hK σ' _ ⟨hn⟩ ⟨fun a' ha' => ?_⟩ (Row.mk_ (zs := []) rfl (Nat.le_refl _) (Nat.zero_le _) rfl ho rfl rfl (by simp) (hm.2 trivial))⟩
  injection ha' with ha'; subst ha'; exact .inr (Nat.le_refl _)⟩
/-- an element of a row is written -/
instance Step.store_slot {x y : Operand} {i : Nat} {v : Value} {w : α} [h : Ev f x (slotV E A i)] [g : Ev f y v] [r : Row σ A n c e E xs] [l : IdxLt i n] [eo : ElemOf P t E bytes] [en : EncV σ E v w] :
    Step P (.store t x y) ty f σ (fun K _ => ∀ σ' : St, Nx σ σ' (.row A e) → Row σ' A n c e E (xs.set i w) → K undef σ') := ⟨fun K E' hK => by
  have hl := l.lt
  have hlen := r.len
  have hle := r.le
  rcases r.full with ⟨_, hn⟩ | ⟨b, zs, ea, hh, hzl, hzt, hzok⟩
  · omega
  subst ea
  have hv := en.eq
  subst hv
  have e0 : E.flat [w] = (E.val w).cells.toList := by simp [Elem.flat]
  have hsp := flat_splice E zs [w] i (by simp; omega)
  have hput : PutV (E.flat zs).toArray (i * E.sz) (E.val w).cells (E.flat (zs.take i ++ [w] ++ zs.drop (i + 1))).toArray := ⟨by
    rw [E.size, E.flat_size, ← Nat.succ_mul]; exact Nat.mul_le_mul_right _ (by omega), by
    rw [e0] at hsp
    rw [show i + 1 = i + [w].length from rfl, ← hsp]
    simp [putCells]⟩
  have hst := run_storeVar_own (P := P) (w := σ.w) eo.ti (b := b) (off := i * E.sz) (v := E.val w) ⟨rfl⟩ ⟨E.size w, E.one w⟩ hh hput
  have hset : zs.take i ++ [w] ++ zs.drop (i + 1) = zs.set i w := by
    rw [List.set_eq_take_append_cons_drop, if_pos (by omega), List.append_assoc]; rfl
  obtain ⟨σ', hw, hnx, hrow⟩ := r.set_ (n' := n) (zs' := zs.take i ++ [w] ++ zs.drop (i + 1)) (ys := xs.set i w) rfl hh (by rw [hset]; simpa using hzl) (by rw [hset, List.take_set, hzt]) hle (fun z' hz' => by
    rw [hset] at hz'
    rcases List.mem_or_eq_of_mem_set hz' with h | rfl
    · exact hzok z' h
    · exact en.ok)
  have hr : (execOp (evo f) ⟨none, .store t x y, ty, "", #[], none⟩).run P σ.w = .ok .skip (σ.w.setRow b (E.flat (zs.take i ++ [w] ++ zs.drop (i + 1))).toArray) := by
    simp [execOp, h.eq, g.eq, slotV, add_at, Instr.storeAt, Instr.sureAddr, hst]
  unfold OpW; rw [hr]
  exact ⟨σ', hw, hK σ' ⟨hnx⟩ hrow⟩⟩
end

/-! ### Calls that write a row of the caller's -/
class Sx (σ0 : St) (X : Xs) (σ : St) : Prop where
  p : NxP σ0 σ X
theorem NxP.comp {σ0 σ σ' : St} {X Y : Xs} (h : NxP σ0 σ X) (k : NxP σ σ' Y) (hy : ∀ b, b < σ0.w.heap.size → Y.hits b → X.hits b) : NxP σ0 σ' X :=
  ⟨k.os.trans h.os, k.tape.trans h.tape, k.output.trans h.output, Nat.le_trans h.size k.size,
   fun b hb hm => (k.imm b (Nat.lt_of_lt_of_le hb h.size) (fun hm' => hm (h.mm b hb hm'))).trans (h.imm b hb hm),
   fun b hb hm => h.mm b hb (k.mm b (Nat.lt_of_lt_of_le hb h.size) hm),
   fun b hb hx => ⟨((k.own b (Nat.lt_of_lt_of_le hb h.size) (fun hh => hx (hy b hb hh))).1).trans (h.own b hb hx).1, fun hm => (k.own b (Nat.lt_of_lt_of_le hb h.size) (fun hh => hx (hy b hb hh))).2 ((h.own b hb hx).2 hm)⟩, h.ty⟩
instance Sx.self {σ0 σ : St} {X : Xs} [h : Nx σ0 σ X] : Sx σ0 X σ := ⟨h.p⟩
/-- of what was there at the beginning, what Y says turned X says, too -/
class HitsIn (σ0 : St) (Y X : Xs) : Prop where
  h : ∀ b, b < σ0.w.heap.size → Y.hits b → X.hits b
class SzLe (σ0 σ : St) : Prop where
  h : σ0.w.heap.size ≤ σ.w.heap.size
instance SzLe.refl {σ : St} : SzLe σ σ := ⟨Nat.le_refl _⟩
instance (priority := low) SzLe.step {σ0 σ σ' : St} {X : Xs} [k : Nx σ σ' X] [h : SzLe σ0 σ] : SzLe σ0 σ' := ⟨Nat.le_trans h.h k.p.size⟩
instance (priority := low) Fresh0.sz {σ0 σ : St} {b : Nat} [h : NewAt σ b] [s : SzLe σ0 σ] : Fresh0 σ0 b := ⟨Nat.le_trans s.h h.ge⟩
instance (priority := low) FreshR.sz {σ0 σ : St} {A A' : Option Addr} [k : RowNew σ A A'] [h : FreshR σ0 A] [s : SzLe σ0 σ] : FreshR σ0 A' :=
  ⟨fun a' ha' => by
    rcases k.h a' ha' with ⟨a, ha, e⟩ | hg
    · rw [← e]; exact h.ge a ha
    · exact Nat.le_trans s.h hg⟩
/-- where a row comes from -/
class Gr (σ0 : St) (A0 A : Option Addr) : Prop where
  h : ∀ a', A = some a' → (∃ a, A0 = some a ∧ a.block = a'.block) ∨ σ0.w.heap.size ≤ a'.block
instance Gr.refl {σ0 : St} {A : Option Addr} : Gr σ0 A A := ⟨fun a h => .inl ⟨a, h, rfl⟩⟩
instance (priority := low) Gr.step {σ0 σ : St} {A0 A A' : Option Addr} [k : RowNew σ A A'] [h : Gr σ0 A0 A] [s : SzLe σ0 σ] : Gr σ0 A0 A' := ⟨fun a' ha' => by
  rcases k.h a' ha' with ⟨a, ha, e⟩ | hg
  · rw [← e]; exact h.h a ha
  · exact .inr (Nat.le_trans s.h hg)⟩
theorem Gr.of_none {σ0 : St} {A A' : Option Addr} (h : Gr σ0 none A') : Gr σ0 A A' := ⟨fun a ha => (h.h a ha).elim (fun ⟨_, h, _⟩ => by cases h) .inr⟩
theorem Gr.rn {σ0 : St} {A0 A : Option Addr} (h : Gr σ0 A0 A) : RowNew σ0 A0 A := ⟨h.h⟩
instance HitsIn.no {σ0 : St} {X : Xs} : HitsIn σ0 .no X := ⟨fun _ _ h => h.elim⟩
instance HitsIn.refl {σ0 : St} {X : Xs} : HitsIn σ0 X X := ⟨fun _ _ h => h⟩
instance (priority := low) HitsIn.gr {σ0 : St} {A A0 : Option Addr} {t : TypeId} [g : Gr σ0 A0 A] : HitsIn σ0 (.row A t) (.row A0 t) := ⟨fun b hb h => by
  obtain ⟨a, ha, e⟩ := h
  rcases g.h a ha with ⟨a0, h0, e0⟩ | hg
  · exact ⟨a0, h0, e0.trans e⟩
  · omega⟩
instance (priority := low) HitsIn.left {σ0 : St} {Y X X' : Xs} [h : HitsIn σ0 Y X] : HitsIn σ0 Y (.un X X') := ⟨fun b hb hh => .inl (h.h b hb hh)⟩
instance (priority := low) HitsIn.right {σ0 : St} {Y X X' : Xs} [h : HitsIn σ0 Y X'] : HitsIn σ0 Y (.un X X') := ⟨fun b hb hh => .inr (h.h b hb hh)⟩
instance (priority := low) HitsIn.un {σ0 : St} {Y Y' X : Xs} [h : HitsIn σ0 Y X] [g : HitsIn σ0 Y' X] : HitsIn σ0 (.un Y Y') X := ⟨fun b hb hh => hh.elim (h.h b hb) (g.h b hb)⟩
instance (priority := low) HitsIn.fresh {σ0 : St} {Y X : Xs} [f : FreshX σ0 Y] : HitsIn σ0 Y X := ⟨fun b hb hh => by have := f.h b hh; omega⟩
instance (priority := low) Sx.step {σ0 σ σ' : St} {X Y : Xs} [k : Nx σ σ' Y] [h : Sx σ0 X σ] [q : HitsIn σ0 Y X] : Sx σ0 X σ' := ⟨h.p.comp k.p q.h⟩
/-- what may be said to turn -/
class Tyd (σ : St) (X : Xs) : Prop where
  h : X.typed σ.w
instance Tyd.no {σ : St} : Tyd σ .no := ⟨trivial⟩
instance Tyd.one {σ : St} {b : Nat} {t : TypeId} {cs : Array Value} [h : Own σ b t cs] : Tyd σ (.one b t) := ⟨⟨_, _, h.h⟩⟩
instance Tyd.row {σ : St} {A : Option Addr} {n c : Nat} {t : TypeId} {α : Type} {E : Elem α} {xs : List α} [r : Row σ A n c t E xs] : Tyd σ (.row A t) := ⟨r.typed⟩
instance Tyd.un {σ : St} {X Y : Xs} [h : Tyd σ X] [g : Tyd σ Y] : Tyd σ (.un X Y) := ⟨⟨h.h, g.h⟩⟩
theorem NxP.rfl_ {σ : St} {X : Xs} (h : Tyd σ X) : NxP σ σ X := ⟨rfl, rfl, rfl, Nat.le_refl _, fun _ _ _ => rfl, fun _ _ h => h, fun _ _ _ => ⟨rfl, id⟩, h.h⟩
instance (priority := low) Sx.refl {σ : St} {X : Xs} [h : Tyd σ X] : Sx σ X σ := ⟨NxP.rfl_ h⟩
theorem Sx.nx {σ0 σ : St} {X : Xs} (h : Sx σ0 X σ) : Nx σ0 σ X := ⟨h.p⟩
/-- a loop: W the places that it writes, X what may turn in it; the rest stays -/
theorem WC.loopW {P : Program} {n : Nat} {Q : PostQ} {D : List Deferred} {f : Fr} {σ : St} {ι : Type} (W : Nat) (X : Xs) (Inv : ι → Fr → St → Prop) (μ : ι → Nat) {c : Code} (i0 : ι) [hx : Tyd σ X] (h0 : Inv i0 f σ)
    (h : ∀ i f' σ', Agree f' W f → Nx σ σ' X → Inv i f' σ' → WC P n (loopQA Inv μ W f σ X i D Q) c D f' σ') : WC P n Q (.loop c) D f σ := WC.loopX W X Inv μ i0 (NxP.rfl_ hx) h0 h
theorem loop_w {ι : Type} {Inv : ι → Fr → St → Prop} {μ : ι → Nat} {i : ι} {Q : PostQ} {D : List Deferred} {f f0 : Fr} {σ σ0 : St} {W : Nat} {X : Xs} (i' : ι) [a : AgreeG f W f0] [hx : Sx σ0 X σ] (h : Inv i' f σ) (hm : μ i' < μ i) : loopQA Inv μ W f0 σ0 X i D Q .normal D f σ := loop_x i' hx.nx h hm
/-- the ways through a part meet again: W the places that it writes, X what may turn in it -/
theorem WC.cutW {P : Program} {n : Nat} {Q : PostQ} {D : List Deferred} {f : Fr} {σ : St} {next : List Deferred → Fr → St → Prop} (W : Nat) (X : Xs) (R : Fr → St → Prop) {c : Code} (h1 : WC P n (thenQ (fun D' f' σ' => D' = D ∧ Agree f' W f ∧ Nx σ σ' X ∧ R f' σ') Q) c D f σ) (h2 : ∀ f' σ', Agree f' W f → Nx σ σ' X → R f' σ' → next D f' σ') : WC P n (thenQ next Q) c D f σ :=
  WC.mono h1 (fun e D' f' σ' hq => by
    cases e with
    | normal => obtain ⟨rfl, h⟩ := hq; exact h2 _ _ h.1 h.2.1 h.2.2
    | _ => exact hq)
theorem cut_w {D : List Deferred} {f f0 : Fr} {σ σ0 : St} {W : Nat} {X : Xs} {R : Fr → St → Prop} [a : AgreeG f W f0] [hx : Sx σ0 X σ] (h : R f σ) : D = D ∧ Agree f W f0 ∧ Nx σ0 σ X ∧ R f σ := ⟨rfl, a.h, hx.nx, h⟩

/-- a row that is written no more -/
theorem WC.freeze {P : Program} {n0 : Nat} {Q : PostQ} {co : Code} {D : List Deferred} {f : Fr} {σ : St} (A : Option Addr) {n c : Nat} {t : TypeId} {α : Type} {E : Elem α} {xs : List α} [h : Row σ A n c t E xs] (k : ∀ σ' : St, Nx σ σ' (.row A t) → SL σ' A n c E xs → WC P n0 Q co D f σ') : WC P n0 Q co D f σ := by
  obtain ⟨σ', hw, hn, hs⟩ := h.freeze
  exact WC.of (fun a h1 h2 h3 => by rw [← hw]; exact (k σ' ⟨hn⟩ hs).use a h1 h2 h3)
/-- a function value that compares -/
class CmpF (P : Program) (fv : Value) {α : outParam Type} (E : outParam (Elem α)) (r : outParam (α → α → Int)) : Prop where
  rule : ∀ (σ : St) (x y : α), E.ok σ x → E.ok σ y → ValRule P fv [E.val x, E.val y] σ (fun K _ => ∀ σ', Nx σ σ' .no → K (.int .i64 (r x y)) σ')
instance ValRule.cmp {P : Program} {fv v u : Value} {α : Type} {E : Elem α} {r : α → α → Int} {x y : α} {σ : St} [c : CmpF P fv E r] [h : EncV σ E v x] [g : EncV σ E u y] : ValRule P fv [v, u] σ (fun K _ => ∀ σ', Nx σ σ' .no → K (.int .i64 (r x y)) σ') := by
  rw [h.eq, g.eq]; exact c.rule σ x y h.ok g.ok

end Go.Proofs.Ytchdbmnikaacdaa

/- copy into a row of the call's own.  -/
set_option linter.all false
namespace Go.Proofs.Ytchdbmnikaacdaa
open Go Go.RowKit
section
variable {P : Program} {f : Fr} {σ σ' : St} {ty : TypeId} {A B : Option Addr} {n m c d : Nat} {α : Type} {E : Elem α} {xs ys : List α} {t t' e : TypeId} {bytes : Nat}
instance Step.copy {x y : Operand} [h : Ev f x (.slice A n c)] [g : Ev f y (.slice B m d)] [r : Row σ A n c e E xs] [s : Rd σ B m d E ys] [u : U P t (.slice e)] [eo : ElemOf P e E bytes] :
    Step P (.call { callee := .builtin .copy, args := #[x, y], argTypes := #[t, t'] }) ty f σ
      (fun K _ => ∀ σ' : St, Nx σ σ' (.row A e) → Row σ' A n c e E (ys.take (min m n) ++ xs.drop (min m n)) → K (.int .i64 ((min m n : Nat) : Int)) σ') := ⟨fun K E' hK => by
  have hlen := r.len
  have hl2 := s.len
  have hcells : ∀ w, w = σ.w → (Builtin.firstCells E.sz (min m n) (.slice B m d)).run P w = .ok (E.flat (ys.take (min m n))).toArray w := by
    rintro w rfl
    rcases s.rd with h0 | ⟨b, o, ha, hc⟩
    · have : ys = [] := List.eq_nil_of_length_eq_zero (by omega)
      subst this
      have hm0 : min m n = 0 := by omega
      cases B with
      | none => simp [Builtin.firstCells, Elem.flat]
      | some ad => simp [Builtin.firstCells, hm0, loadCells, loadCellsFrom, Elem.flat]
    · subst ha
      have hl : (E.flat (ys.take (min m n))).length = min m n * E.sz := by rw [E.flat_length]; congr 1; simp; omega
      have := run_loadCells_list (P := P) σ.w ⟨b, o, none⟩ (E.flat (ys.take (min m n))) (fun j v hj => by
        rw [add_at]
        rw [← E.flat_take, List.getElem?_take] at hj
        split at hj
        · exact hc j v hj
        · cases hj)
      rw [hl] at this
      simpa [Builtin.firstCells] using this
  have hle := r.le
  rcases r.full with ⟨ea, hc0⟩ | ⟨b, zs, ea, hh, hzl, hzt, hzok⟩
  · have hn : n = 0 := by omega
    subst ea; subst hc0; subst hn
    have hr : (execOp (evo f) ⟨none, .call { callee := .builtin .copy, args := #[x, y], argTypes := #[t, t'] }, ty, "", #[], none⟩).run P σ.w = .ok (.value (.int .i64 ((min m 0 : Nat) : Int))) σ.w := by
      have := hcells σ.w rfl
      simp [execOp, resolve, h.eq, g.eq, invoke, builtin, Builtin.copy_, run_underlying u.h, Builtin.lenOf, eo.ti.run_sizeOf, goInt] at this ⊢
      simp [this]
    unfold OpW; rw [hr]
    exact ⟨σ, rfl, hK σ ⟨⟨rfl, rfl, rfl, Nat.le_refl _, fun _ _ _ => rfl, fun _ _ h => h, fun _ _ _ => ⟨rfl, id⟩, nofun⟩⟩ (by simpa using r)⟩
  · have e6 : (ys.take (min m n)).length = min m n := by simp; omega
    have hsp := flat_splice E zs (ys.take (min m n)) 0 (by omega)
    obtain ⟨σ', hw, hnx, hrow⟩ := r.set_ (n' := n) (zs' := zs.take 0 ++ ys.take (min m n) ++ zs.drop (0 + (ys.take (min m n)).length)) (ys := ys.take (min m n) ++ xs.drop (min m n)) ea hh (by simp; omega) (by
      rw [e6, List.take_zero, List.nil_append, Nat.zero_add, List.take_append, e6, List.take_of_length_le (by omega), ← hzt, List.drop_take]) hle (fun z hz => by
      rcases List.mem_append.1 hz with h | h
      · rcases List.mem_append.1 h with h | h
        · simp at h
        · exact s.ok z (List.mem_of_mem_take h)
      · exact hzok z (List.mem_of_mem_drop h))
    have hst := run_storeCells_at (P := P) b 0 e (E.flat (ys.take (min m n))) 0 (E.flat zs).toArray σ.w hh (by rw [E.flat_length, E.flat_size, e6, Nat.add_zero, Nat.zero_add]; exact Nat.mul_le_mul_right _ (by omega)) (E.flat_one)
    have hr : (execOp (evo f) ⟨none, .call { callee := .builtin .copy, args := #[x, y], argTypes := #[t, t'] }, ty, "", #[], none⟩).run P σ.w = .ok (.value (.int .i64 ((min m n : Nat) : Int))) (σ.w.setRow b (E.flat (zs.take 0 ++ ys.take (min m n) ++ zs.drop (0 + (ys.take (min m n)).length))).toArray) := by
      have h3 := hcells σ.w rfl
      subst ea
      rw [← hsp]
      simp only [Nat.zero_mul, Nat.zero_add] at hst ⊢
      simp only [execOp, resolve, List.map_toArray, List.map_cons, List.map_nil, h.eq, g.eq, Sem.run_bind, Sem.run_pure, Result.andThen_ok, invoke, builtin, Builtin.copy_]
      simp [run_underlying u.h, Builtin.lenOf, eo.ti.run_sizeOf, goInt, show Nat.min m n = min m n from rfl, h3, hst]
    unfold OpW; rw [hr]
    exact ⟨σ', hw, hK σ' ⟨hnx⟩ hrow⟩⟩
end
end Go.Proofs.Ytchdbmnikaacdaa

/- The engine, part 8: parts of rows: cut, written, cleared; rows that are handed back; nil.  -/
set_option linter.all false
namespace Go.Proofs.Ytchdbmnikaacdaa
open Go Go.RowKit
section
variable {P : Program} {f : Fr} {σ σ' : St} {ty : TypeId} {A B : Option Addr} {n m c d : Nat} {α : Type} {E : Elem α} {xs ys : List α} {t t' e : TypeId} {bytes : Nat}
theorem Row.refl' (r : Row σ A n c t E xs) : NxP σ σ (.row A t) := NxP.rfl_ (Tyd.row (r := r))
theorem cutA_zero (u c : Nat) : cutA E A 0 u c = A := by
  unfold cutA
  split
  · rfl
  · cases A with
    | none => rfl
    | some a => simp [Addr.add]

instance (priority := low) NeN.comm {a b : Nat} [h : NeN a b] : NeN b a := ⟨fun e => h.ne e.symm⟩
/-- a part of what can be read -/
instance (priority := low) Rd.cut {l u : Nat} [h : Rd σ A n c E xs] [a1 : LeN l u] [a2 : LeN u n] : Rd σ (cutA E A l u c) (u - l) (c - l) E ((xs.drop l).take (u - l)) := by
  have hl := h.len; have hm := h.max; have hc := h.le; have h1 := a1.le; have h2 := a2.le
  refine ⟨by simp; omega, by omega, by omega, fun x hx => h.ok x (List.mem_of_mem_drop (List.mem_of_mem_take hx)), ?_⟩
  by_cases hul : u - l = 0
  · exact .inl hul
  · refine .inr ?_
    rcases h.rd with h0 | ⟨b, o, ha, hc⟩
    · omega
    · unfold cutA
      rw [if_neg (by omega)]
      refine ⟨b, o + l * E.sz, by rw [ha]; simp [add_at], fun j v hj => ?_⟩
      rw [← E.flat_take, List.getElem?_take] at hj
      split at hj
      · rw [← E.flat_drop, List.getElem?_drop] at hj
        rw [Nat.add_assoc]; exact hc _ _ hj
      · cases hj
/-- the first ones of a row, up to what it has room for -/
instance (priority := high) StepV.slice_row {x hi : Operand} {k' : IntKind} {jh : Int} {n1 u : Nat} [h : Ev f x (.slice A n1 c)] [r : Row σ A n c e E xs] [g' : Ev f hi (.int k' jh)] [uu : U P t (.slice e)] [eo : ElemOf P e E bytes] [q' : ToNat jh u] [a2 : LeN u c] :
    StepV P (.slice t x none (some hi) none) ty f σ (.slice A u c) := ⟨by
  have h2 := a2.le
  have e2 := q'.eq
  subst e2
  have hz := cutA_zero (E := E) (A := A) u c
  unfold cutA at hz
  simp [execOp, h.eq, g'.eq, Instr.sliceAt, Instr.slice, Instr.sliceBounds, Instr.sliceBound, asIntOf, run_underlying uu.h, eo.ti.run_sizeOf, h2]
  intro _
  cases A <;> simp [Addr.add]⟩
/-- a part of a row, up to what it has room for -/
instance (priority := low) StepV.slice_row2 {x lo hi : Operand} {k k' : IntKind} {jl jh : Int} {l u n1 : Nat} [h : Ev f x (.slice A n1 c)] [r : Row σ A n c e E xs] [g : Ev f lo (.int k jl)] [g' : Ev f hi (.int k' jh)] [uu : U P t (.slice e)] [eo : ElemOf P e E bytes] [q : ToNat jl l] [q' : ToNat jh u] [a1 : LeN l u] [a2 : LeN u c] :
    StepV P (.slice t x (some lo) (some hi) none) ty f σ (.slice (cutA E A l u c) (u - l) (c - l)) := ⟨by
  have h1 := a1.le
  have h2 := a2.le
  have e1 := q.eq
  have e2 := q'.eq
  subst e1; subst e2
  simp [execOp, h.eq, g.eq, g'.eq, Instr.sliceAt, Instr.slice, Instr.sliceBounds, Instr.sliceBound, asIntOf, run_underlying uu.h, eo.ti.run_sizeOf, cutA, h1, h2]⟩
/-- s[l:h:m] -/
instance StepV.slice3 {x lo hi mx : Operand} {k k' k2 : IntKind} {jl jh jm : Int} {l u v : Nat} [h : Ev f x (.slice A n c)] [g : Ev f lo (.int k jl)] [g' : Ev f hi (.int k' jh)] [g2 : Ev f mx (.int k2 jm)] [r : Rd σ A n c E xs] [uu : U P t (.slice e)] [eo : ElemOf P e E bytes] [q : ToNat jl l] [q' : ToNat jh u] [q2 : ToNat jm v] [a1 : LeN l u] [a2 : LeN u v] [a3 : LeN v n] :
    StepV P (.slice t x (some lo) (some hi) (some mx)) ty f σ (.slice (cutA E A l u v) (u - l) (v - l)) := ⟨by
  have h1 := a1.le
  have h2 := a2.le
  have h3 := Nat.le_trans a3.le r.le
  have e1 := q.eq
  have e2 := q'.eq
  have e3 := q2.eq
  subst e1; subst e2; subst e3
  simp [execOp, h.eq, g.eq, g'.eq, g2.eq, Instr.sliceAt, Instr.slice, Instr.sliceBounds, Instr.sliceBound, asIntOf, run_underlying uu.h, eo.ti.run_sizeOf, cutA, h1, h2, h3]⟩
/-- what is sliced three-fold has the length that is told -/
instance SL.cut3 {l u v : Nat} [h : SL σ A n c E xs] [a1 : LeN l u] [a2 : LeN u n] [a3 : LeN u v] : SL σ (cutA E A l u v) (u - l) (v - l) E ((xs.drop l).take (u - l)) := by
  have h1 := a1.le; have h2 := a2.le; have h3 := a3.le
  have hl := h.len; have hm := h.max; have hc := h.le
  refine ⟨by simp; omega, by omega, by omega, fun x hx => h.ok x (List.mem_of_mem_drop (List.mem_of_mem_take hx)), ?_⟩
  by_cases hul : u - l = 0
  · exact .inl hul
  · refine .inr ?_
    rcases h.rd with h0 | ⟨b, o, ha, hb, hlt, hc⟩
    · omega
    · unfold cutA
      rw [if_neg (by omega)]
      refine ⟨b, o + l * E.sz, by rw [ha]; simp [add_at], hb, hlt, fun j v hj => ?_⟩
      rw [← E.flat_take, List.getElem?_take] at hj
      split at hj
      · rw [← E.flat_drop, List.getElem?_drop] at hj
        rw [Nat.add_assoc]; exact hc _ _ hj
      · cases hj
instance (priority := low) StepV.slice_none {x : Operand} {A : Option Addr} {n c : Nat} [h : Ev f x (.slice A n c)] [r : Rd σ A n c E xs] [uu : U P t (.slice e)] [eo : ElemOf P e E bytes] : StepV P (.slice t x none none none) ty f σ (.slice A n c) := ⟨by
  have hle := r.le
  simp [execOp, h.eq, Instr.sliceAt, Instr.slice, Instr.sliceBounds, run_underlying uu.h, eo.ti.run_sizeOf]
  intro _
  cases A <;> simp [Addr.add]⟩
instance StepV.cap_slice {x : Operand} [u : U P t (.slice e)] [h : Ev f x (.slice A n c)] : StepV P (.call { callee := .builtin .cap, args := #[x], argTypes := #[t] }) ty f σ (.int .i64 c) :=
  ⟨(by simp [execOp, resolve, h.eq, invoke, builtin, Builtin.cap_, run_underlying u.h, goInt])⟩

/-- a row is told longer, or shorter -/
theorem Row.resize {u : Nat} (r : Row σ A n c t E xs) (hu : u ≤ c) : ∃ σ' ys, σ'.w = σ.w ∧ NxP σ σ' (.row A t) ∧ Row σ' A u c t E ys ∧ ys.take n = xs.take u ∧ ys.length = u := by
  have hn : NxP σ σ (.row A t) := r.refl'
  rcases r.full with ⟨ea, hc⟩ | ⟨b, zs, ea, hh, hz, ht, hok⟩
  · have h0 : u = 0 := by omega
    have hl := r.le; have hx := r.len
    have hx0 : xs = [] := List.eq_nil_of_length_eq_zero (by omega)
    subst h0; subst hx0
    exact ⟨σ, [], rfl, hn, ⟨rfl, by simp, Nat.zero_le _, r.max, .inl ⟨ea, hc⟩, r.m⟩, by simp, rfl⟩
  · have hl : (zs.take u).length = u := by simp; omega
    refine ⟨σ, zs.take u, rfl, hn, Row.mk_ hl hu r.max ea hh hz rfl hok (r.m _ ea), ?_, hl⟩
    rw [← ht, List.take_take, List.take_take, Nat.min_comm]
theorem WC.resize {P : Program} {n0 : Nat} {Q : PostQ} {co : Code} {D : List Deferred} {f : Fr} {σ : St} (A : Option Addr) (u : Nat) {n c : Nat} {t : TypeId} {α : Type} {E : Elem α} {xs : List α} [h : Row σ A n c t E xs] (hu : u ≤ c) (k : ∀ (σ' : St) (ys : List α), Nx σ σ' (.row A t) → Row σ' A u c t E ys → ys.take n = xs.take u → ys.length = u → WC P n0 Q co D f σ') : WC P n0 Q co D f σ := by
  obtain ⟨σ', ys, hw, hn, hr, he, hl⟩ := h.resize hu
  exact WC.of (fun a h1 h2 h3 => by rw [← hw]; exact (k σ' ys ⟨hn⟩ hr he hl).use a h1 h2 h3)

theorem WL.resize {P : Program} {n0 : Nat} {Q : PostQ} {ops : Array Oper} {l : List Oper} {D : List Deferred} {f : Fr} {σ : St} (A : Option Addr) (u : Nat) {n c : Nat} {t : TypeId} {α : Type} {E : Elem α} {xs : List α} [h : Row σ A n c t E xs] (hu : u ≤ c) (k : ∀ (σ' : St) (ys : List α), Nx σ σ' (.row A t) → Row σ' A u c t E ys → ys.take n = xs.take u → ys.length = u → WL P ops n0 Q l D f σ') : WL P ops n0 Q l D f σ := by
  obtain ⟨σ', ys, hw, hn, hr, he, hl⟩ := h.resize hu
  exact WL.of (fun a h1 h2 h3 => by rw [← hw]; exact (k σ' ys ⟨hn⟩ hr he hl).use a h1 h2 h3)
theorem WL.freeze {P : Program} {n0 : Nat} {Q : PostQ} {ops : Array Oper} {l : List Oper} {D : List Deferred} {f : Fr} {σ : St} (A : Option Addr) {n c : Nat} {t : TypeId} {α : Type} {E : Elem α} {xs : List α} [h : Row σ A n c t E xs] (k : ∀ σ' : St, Nx σ σ' (.row A t) → SL σ' A n c E xs → WL P ops n0 Q l D f σ') : WL P ops n0 Q l D f σ := by
  obtain ⟨σ', hw, hn, hs⟩ := h.freeze
  exact WL.of (fun a h1 h2 h3 => by rw [← hw]; exact (k σ' ⟨hn⟩ hs).use a h1 h2 h3)
/-- what is written into a row from place l on -/
theorem Row.splice {b l : Nat} {zs : List α} (r : Row σ A n c e E xs) (ea : A = some ⟨b, 0, none⟩) (hh : σ.w.heap[b]? = some (.cells (E.flat zs).toArray e (0, 0))) (hzl : zs.length = c) (hzt : zs.take n = xs) (hzok : ∀ z ∈ zs, E.ok σ z) (vs : List α) (hv : ∀ z ∈ vs, E.ok σ z) (hl : l + vs.length ≤ c) (hln : l ≤ n) :
    ∃ σ', σ'.w = σ.w.setRow b ((E.flat zs).toArray.toList.take (l * E.sz) ++ E.flat vs ++ (E.flat zs).toArray.toList.drop (l * E.sz + (E.flat vs).length)).toArray ∧ NxP σ σ' (.row A e) ∧ Row σ' A n c e E ((xs.take l ++ vs ++ xs.drop (l + vs.length)).take n) := by
  have hle := r.le
  obtain ⟨σ', hw, hnx, hrow⟩ := r.set_ (n' := n) (zs' := zs.take l ++ vs ++ zs.drop (l + vs.length)) (ys := (xs.take l ++ vs ++ xs.drop (l + vs.length)).take n) ea hh (by simp; omega) (by
    rw [← hzt, List.take_take, Nat.min_eq_left hln, List.drop_take]
    have hl1 : (zs.take l ++ vs).length = l + vs.length := by simp; omega
    rw [List.take_append, List.take_append (l₁ := zs.take l ++ vs), hl1]
    congr 1
    rw [List.take_take, Nat.min_self]) hle (fun z hz => by
    rcases List.mem_append.1 hz with h | h
    · rcases List.mem_append.1 h with h | h
      · exact hzok z (List.mem_of_mem_take h)
      · exact hv z h
    · exact hzok z (List.mem_of_mem_drop h))
  exact ⟨σ', by rw [hw, flat_splice E zs vs l (by omega)], hnx, hrow⟩
/-- copy into a part of a row -/
instance Step.copy_cut {x y : Operand} {l u c1 : Nat} [h : Ev f x (.slice (cutA E A l u c1) (u - l) (c1 - l))] [g : Ev f y (.slice B m d)] [r : Row σ A n c e E xs] [q : EqN c1 c] [a1 : LeN l u] [a2 : LeN u n] [s : Rd σ B m d E ys] [ut : U P t (.slice e)] [eo : ElemOf P e E bytes] :
    Step P (.call { callee := .builtin .copy, args := #[x, y], argTypes := #[t, t'] }) ty f σ
      (fun K _ => ∀ σ' : St, Nx σ σ' (.row A e) → Row σ' A n c e E ((xs.take l ++ ys.take (min m (u - l)) ++ xs.drop (l + (ys.take (min m (u - l))).length)).take n) → K (.int .i64 ((min m (u - l) : Nat) : Int)) σ') := ⟨fun K E' hK => by
  have e1 := q.eq
  subst e1
  have h1 := a1.le
  have h2 := a2.le
  have hle := r.le
  have hlen := r.len
  have hl2 := s.len
  have hcells : (Builtin.firstCells E.sz (min m (u - l)) (.slice B m d)).run P σ.w = .ok (E.flat (ys.take (min m (u - l)))).toArray σ.w := by
    rcases s.rd with h0 | ⟨b, o, ha, hc⟩
    · have : ys = [] := List.eq_nil_of_length_eq_zero (by omega)
      subst this
      have hm0 : min m (u - l) = 0 := by omega
      cases B with
      | none => simp [Builtin.firstCells, Elem.flat]
      | some ad => simp [Builtin.firstCells, hm0, loadCells, loadCellsFrom, Elem.flat]
    · subst ha
      have hl : (E.flat (ys.take (min m (u - l)))).length = min m (u - l) * E.sz := by rw [E.flat_length]; congr 1; simp; omega
      have := run_loadCells_list (P := P) σ.w ⟨b, o, none⟩ (E.flat (ys.take (min m (u - l)))) (fun j v hj => by
        rw [add_at]
        rw [← E.flat_take, List.getElem?_take] at hj
        split at hj
        · exact hc j v hj
        · cases hj)
      rw [hl] at this
      simpa [Builtin.firstCells] using this
  have e6 : (ys.take (min m (u - l))).length = min m (u - l) := by simp; omega
  rcases r.full with ⟨ea, hc0⟩ | ⟨b, zs, ea, hh, hzl, hzt, hzok⟩
  · have hl0 : l = 0 := by omega
    have hu0 : u = 0 := by omega
    have hn0 : n = 0 := by omega
    subst ea; subst hc0; subst hl0; subst hu0; subst hn0
    have hx0 : xs = [] := List.eq_nil_of_length_eq_zero hlen
    subst hx0
    have hr : (execOp (evo f) ⟨none, .call { callee := .builtin .copy, args := #[x, y], argTypes := #[t, t'] }, ty, "", #[], none⟩).run P σ.w = .ok (.value (.int .i64 ((min m (0 - 0) : Nat) : Int))) σ.w := by
      have := hcells
      simp [execOp, resolve, h.eq, g.eq, cutA, invoke, builtin, Builtin.copy_, run_underlying ut.h, Builtin.lenOf, eo.ti.run_sizeOf, goInt] at this ⊢
      simp [this]
    unfold OpW; rw [hr]
    exact ⟨σ, rfl, hK σ ⟨⟨rfl, rfl, rfl, Nat.le_refl _, fun _ _ _ => rfl, fun _ _ h => h, fun _ _ _ => ⟨rfl, id⟩, nofun⟩⟩ (by simpa using r)⟩
  · obtain ⟨σ', hw, hnx, hrow⟩ := r.splice (l := l) ea hh hzl hzt hzok (ys.take (min m (u - l))) (fun z hz => s.ok z (List.mem_of_mem_take hz)) (by omega) (by omega)
    have hst := run_storeCells_at (P := P) b (l * E.sz) e (E.flat (ys.take (min m (u - l)))) 0 (E.flat zs).toArray σ.w hh (by
      rw [E.flat_length, E.flat_size, e6, Nat.add_zero, ← Nat.add_mul]; exact Nat.mul_le_mul_right _ (by omega)) (E.flat_one)
    simp only [Nat.add_zero] at hst
    have hr : (execOp (evo f) ⟨none, .call { callee := .builtin .copy, args := #[x, y], argTypes := #[t, t'] }, ty, "", #[], none⟩).run P σ.w = .ok (.value (.int .i64 ((min m (u - l) : Nat) : Int))) σ'.w := by
      rw [hw]
      subst ea
      by_cases hcl : c1 = l
      · have hul : u - l = 0 := by omega
        have hs0 : (E.flat zs).toArray.toList.take (l * E.sz) ++ E.flat (ys.take (min m (u - l))) ++ (E.flat zs).toArray.toList.drop (l * E.sz + (E.flat (ys.take (min m (u - l)))).length) = (E.flat zs).toArray.toList := by
          simp [hul, Elem.flat_nil]
        rw [hs0, Array.toArray_toList, setRow_self _ _ _ _ _ hh]
        simp [hul] at hcells
        simp [execOp, resolve, h.eq, g.eq, hul, invoke, builtin, Builtin.copy_, run_underlying ut.h, Builtin.lenOf, eo.ti.run_sizeOf, goInt, cutA, hcl, hcells, storeCells, Elem.flat_nil]
      · simp only [execOp, resolve, List.map_toArray, List.map_cons, List.map_nil, h.eq, g.eq, Sem.run_bind, Sem.run_pure, Result.andThen_ok, invoke, builtin, Builtin.copy_]
        simp [run_underlying ut.h, Builtin.lenOf, eo.ti.run_sizeOf, goInt, show Nat.min m (u - l) = min m (u - l) from rfl, hcells, cutA, hcl, add_at, hst]
    unfold OpW; rw [hr]
    exact ⟨σ', rfl, hK σ' ⟨hnx⟩ hrow⟩⟩
/-- clear of what a row has room for, behind its end -/
instance Step.clear_tail {z : α} {x : Operand} {l u c1 : Nat} [h : Ev f x (.slice (cutA E A l u c1) (u - l) (c1 - l))] [r : Row σ A n c e E xs] [q : EqN c1 c] [a1 : LeN n l] [a3 : LeN l u] [a2 : LeN u c] [ut : U P t (.slice e)] [eo : ElemOf P e E bytes] [ze : ZeroE P e E z] :
    Step P (.call { callee := .builtin .clear, args := #[x], argTypes := #[t] }) ty f σ (fun K _ => ∀ σ' : St, Nx σ σ' (.row A e) → Row σ' A n c e E xs → K (.tuple #[]) σ') := ⟨fun K E' hK => by
  have e1 := q.eq
  subst e1
  have h1 := a1.le
  have h2 := a2.le
  have h3 := a3.le
  have hle := r.le
  obtain ⟨d0, i, hd0, hag, hi, hsz, hby⟩ := eo.ti.h
  obtain ⟨i', zv, hi', hz, hzc⟩ := ze.h
  rw [hi] at hi'; injection hi' with hi'; subst hi'
  have hself : NxP σ σ (.row A e) := r.refl'
  by_cases hul : u - l = 0
  · have hr : (execOp (evo f) ⟨none, .call { callee := .builtin .clear, args := #[x], argTypes := #[t] }, ty, "", #[], none⟩).run P σ.w = .ok (.value (.tuple #[])) σ.w := by
      simp only [execOp, resolve, List.map_toArray, List.map_cons, List.map_nil, h.eq, hul, Sem.run_bind, Sem.run_pure, Result.andThen_ok, invoke, builtin, Builtin.clear_]
      cases hA : cutA E A l u c1 <;> simp [run_underlying ut.h]
    unfold OpW; rw [hr]
    exact ⟨σ, rfl, hK σ ⟨hself⟩ r⟩
  · rcases r.full with ⟨ea, hc0⟩ | ⟨b, zs, ea, hh, hzl, hzt, hzok⟩
    · omega
    · subst ea
      obtain ⟨σ', hw, hnx, hrow⟩ := r.set_ (n' := n) (zs' := zs.take l ++ List.replicate (u - l) z ++ zs.drop (l + (List.replicate (u - l) z).length)) (ys := xs) rfl hh (by simp; omega) (by
        rw [List.append_assoc, List.take_append_of_le_length (by simp; omega), List.take_take, Nat.min_eq_left h1, hzt]) hle (fun x hx => by
        rcases List.mem_append.1 hx with h | h
        · rcases List.mem_append.1 h with h | h
          · exact hzok x (List.mem_of_mem_take h)
          · rw [(List.mem_replicate.1 h).2]; exact ze.ok _
        · exact hzok x (List.mem_of_mem_drop h))
      have hsp := flat_splice E zs (List.replicate (u - l) z) l (by simp; omega)
      have hzf := zeroCells_flat E z (u - l) hzc
      have hst := run_storeCells_at (P := P) b (l * E.sz) e (E.flat (List.replicate (u - l) z)) 0 (E.flat zs).toArray σ.w hh (by
        rw [E.flat_length, E.flat_size, List.length_replicate, Nat.add_zero, ← Nat.add_mul]; exact Nat.mul_le_mul_right _ (by omega)) (E.flat_one)
      simp only [Nat.add_zero] at hst
      have hr : (execOp (evo f) ⟨none, .call { callee := .builtin .clear, args := #[x], argTypes := #[t] }, ty, "", #[], none⟩).run P σ.w = .ok (.value (.tuple #[])) σ'.w := by
        rw [hw, ← hsp]
        have hcl : ¬ c1 = l := by omega
        obtain ⟨k, hk⟩ : ∃ k, u - l = k + 1 := ⟨u - l - 1, by omega⟩
        simp only [execOp, resolve, List.map_toArray, List.map_cons, List.map_nil, h.eq, Sem.run_bind, Sem.run_pure, Result.andThen_ok, invoke, builtin, Builtin.clear_, cutA, if_neg hcl, Option.map_some, add_at, Nat.zero_add]
        rw [hk] at hst hzf ⊢
        simp [run_underlying ut.h, zeroValue, typeInfo, hi, hz, hzf, hst]
      unfold OpW; rw [hr]
      exact ⟨σ', rfl, hK σ' ⟨hnx⟩ hrow⟩⟩
/-- is a slice nil? -/
theorem run_equalIn_nil (u : U P t (.slice e)) (k : Nat) (w : World) : (Op.equalIn (k + 1) t (.slice A n c) (.slice none 0 0)).run P w = .ok (decide (A = none)) w := by
  cases A <;> simp [Op.equalIn, run_underlying u.h]
instance Eqv.slice_nil {bb : Bool} [u : U P t (.slice e)] [q : BV (decide (A = none)) bb] : Eqv P t (.slice A n c) (.slice none 0 0) bb := by
  have hq := q.eq; subst hq
  have he : ∀ w, (Op.equalIn 10000 t (.slice A n c) (.slice none 0 0)).run P w = .ok (decide (A = none)) w := fun w => run_equalIn_nil u 9999 w
  have hg : ∀ (op : BinOp) (X Y : Operand) w, (eqGuard op t X Y (.slice A n c) (.slice none 0 0)).run P w = .ok () w := by
    intro op X Y w; cases op <;> simp [eqGuard]
  refine ⟨fun X Y w => ?_, fun X Y w => ?_⟩
  all_goals
    simp only [Sem.run_bind, hg, Result.andThen_ok, binOp, Op.equal, Op.maxDepth, he]
    rfl
/-- append(s, make([]T, n)...) -/
instance Step.append_make {z : α} {x y : Operand} {j : Int} {u c1 : Nat} {ti : TypeId} [h : Ev f x (.slice A u c1)] [g : Ev f y (.int .i64 j)] [qj : ToNat j m] [ui : U P ti (.int .i64)] [r : Row σ A n c e E xs] [q : EqN c1 c] [l1 : LeN u n] [ut : U P t (.slice e)] [eo : ElemOf P e E bytes] [ze : ZeroE P e E z] :
    Step P (.call { callee := .builtin .append, args := #[x, y], argTypes := #[t, ti] }) ty f σ
      (fun K _ => ((u + m) * bytes ≤ 140737488355328 ∧ u + m ≤ 9223372036854775807 ∧ c < u + m) ∧ ∀ (σ' : St) (A' : Option Addr) (c' : Nat), Nx σ σ' .no → RowNew σ none A' → Row σ' A' (u + m) c' e E (xs.take u ++ List.replicate m z) → K (.slice A' (u + m) c') σ') := ⟨fun K E' hK => by
  obtain ⟨⟨hb, hmx0, hroom⟩, hK⟩ := hK
  have e1 := q.eq
  subst e1
  have ej := qj.eq
  subst ej
  have hu := l1.le
  have hle := r.le
  have hlen := r.len
  have hmx : u + m ≤ maxLen := by simp only [maxLen]; omega
  obtain ⟨d0, i, hd0, hag, hi, hsz, hby⟩ := eo.ti.h
  obtain ⟨i', zv, hi', hz, hzc⟩ := ze.h
  rw [hi] at hi'; injection hi' with hi'; subst hi'
  have hpos := E.pos
  have hge := grownCap_ge σ.w (u + m) c1 e
  have hcm : grownCap σ.w (u + m) c1 e ≤ maxLen := grownCap_le_maxLen σ.w (u + m) c1 e hmx
  obtain ⟨σ1, hw1, hn1⟩ := st_drew σ (σ.w.drawn + 1)
  obtain ⟨σ2, hw2, hn2, hm2, hm2', ho2, hs2⟩ := st_new σ1 (.cells ((E.flat (xs.take u)).toArray ++ Builtin.zeroCells zv.cells m ++ Builtin.zeroCells zv.cells (grownCap σ.w (u + m) c1 e - (u + m))) e) True
  have hz1 : σ1.w.heap.size = σ.w.heap.size := by rw [hw1]
  have hd : σ1.w = σ.w.drew := hw1
  have hn3 : NxP σ σ2 .no := ⟨hn2.os.trans hn1.os, hn2.tape.trans hn1.tape, hn2.output.trans hn1.output, Nat.le_trans hn1.size hn2.size, fun b hb hb' => (hn2.imm b (by omega) (fun h => hb' (hn1.mm b hb h))).trans (hn1.imm b hb hb'),
    fun b hb h => hn1.mm b hb (hn2.mm b (by omega) h), fun b hb _ => ⟨((hn2.own b (by omega) id).1).trans (hn1.own b hb id).1, fun h => (hn2.own b (by omega) id).2 ((hn1.own b hb id).2 h)⟩, trivial⟩
  have hfl : (E.flat (xs.take u)).toArray ++ Builtin.zeroCells zv.cells m ++ Builtin.zeroCells zv.cells (grownCap σ.w (u + m) c1 e - (u + m)) = (E.flat (xs.take u ++ List.replicate m z ++ List.replicate (grownCap σ.w (u + m) c1 e - (u + m)) z)).toArray := by
    rw [zeroCells_flat E z _ hzc, zeroCells_flat E z _ hzc]; simp only [Elem.flat_append, List.append_toArray]
  have hlx : (xs.take u ++ List.replicate m z).length = u + m := by simp; omega
  have hrow : Row σ2 (some ⟨σ.w.heap.size, 0, none⟩) (u + m) (grownCap σ.w (u + m) c1 e) e E (xs.take u ++ List.replicate m z) :=
    Row.mk_ (zs := xs.take u ++ List.replicate m z ++ List.replicate (grownCap σ.w (u + m) c1 e - (u + m)) z) hlx hge hcm rfl (by rw [hz1] at ho2; rw [ho2, hfl]) (by simp; omega) (by rw [List.take_append_of_le_length (by omega), List.take_of_length_le (by omega)]) (fun x hx => by
      rcases List.mem_append.1 hx with hx | hx
      · rcases List.mem_append.1 hx with hx | hx
        · exact E.nx _ _ _ _ hn3 (r.ok x (List.mem_of_mem_take hx))
        · rw [(List.mem_replicate.1 hx).2]; exact ze.ok _
      · rw [(List.mem_replicate.1 hx).2]; exact ze.ok _) (by rw [hz1] at hm2; exact hm2.2 trivial)
  have hold : (Builtin.firstCells E.sz u (.slice A u c1)).run P σ.w.drew = .ok (E.flat (xs.take u)).toArray σ.w.drew := by
    rcases r.full with ⟨ea, hc0⟩ | ⟨b, zs, ea, hh, hzl, hzt, hzok⟩
    · have : xs = [] := List.eq_nil_of_length_eq_zero (by omega)
      subst this; subst ea
      simp [Builtin.firstCells, Elem.flat_nil]
    · subst ea
      have hfx : E.flat (xs.take u) = (E.flat zs).take (u * E.sz) := by rw [E.flat_take, ← hzt, List.take_take, Nat.min_eq_left hu]
      have := run_loadCells_list (P := P) σ.w.drew ⟨b, 0, none⟩ (E.flat (xs.take u)) (fun j v hv => by
        rw [add_at, Nat.zero_add]
        have hh' : σ.w.drew.heap[b]? = some (.cells (E.flat zs).toArray e (0, 0)) := hh
        rw [cell_own hh']
        rw [hfx, List.getElem?_take] at hv
        split at hv
        · simpa using hv
        · cases hv)
      have hl : (E.flat (xs.take u)).length = u * E.sz := by rw [E.flat_length]; congr 1; simp; omega
      rw [hl] at this
      simpa [Builtin.firstCells] using this
  have hm63 : IntKind.i64.wrap (m : Int) = (m : Int) := by rw [IntKind.wrap_i64]; omega
  have hroom' : ¬ (u + m ≤ c1) := by omega
  have hbm : ¬ ((m : Int) * (i.bytes : Int) > 2 ^ 48) := by
    rw [hby, ← Int.natCast_mul]
    have : m * bytes ≤ (u + m) * bytes := Nat.mul_le_mul_right _ (by omega)
    omega
  have hgb := growslice_fits (old := c1) (need := u + m) (bytes := bytes) (by omega) hb
  have hr : (execOp (evo f) ⟨none, .call { callee := .builtin .append, args := #[x, y], argTypes := #[t, ti] }, ty, "", #[], none⟩).run P σ.w = .ok (.value (.slice (some ⟨σ.w.heap.size, 0, none⟩) (u + m) (grownCap σ.w (u + m) c1 e))) σ2.w := by
    rw [hw2, hd]
    have hmz : ¬ (m * i.size = 0) := by
      have := Nat.mul_pos (show 0 < m by omega) (show 0 < i.size by omega)
      omega
    have hm0 : ¬ ((m : Int) < 0) := by omega
    rw [← hsz] at hold
    have h63' : ¬ (9223372036854775807 < ((u : Int) + (m : Int))) := by omega
    have h48' : ¬ (281474976710656 < Builtin.nextslicecap (u + m) c1 * i.bytes) := by rw [hby]; omega
    have hbm' : ¬ (281474976710656 < (m : Int) * (i.bytes : Int)) := by omega
    simp [execOp, resolve, h.eq, g.eq, invoke, builtin, Builtin.append_, run_underlying ut.h, run_underlying ui.h, sizeOf, typeInfo, zeroValue, asInt, asIntOf, hi, hz, hm63, hbm', hroom', h63', h48', hmz, hm0, Question.forced, hold, newRow, grownCap]
  unfold OpW; rw [hr]
  exact ⟨σ2, rfl, hK σ2 _ _ ⟨hn3⟩ ⟨fun a' ha' => by injection ha' with ha'; subst ha'; exact .inr (Nat.le_refl _)⟩ hrow⟩⟩
end
section
variable {P : Program} {σ : St} {A B : Option Addr} {n m c d : Nat} {α β : Type} {E : Elem α} {F : Elem β} {xs : List α} {ys : List β} {t e e' : TypeId} {bytes : Nat} [Inhabited β]
/-- what nobody writes lies elsewhere than what the call writes -/
theorem run_overlaps {l u c1 k c2 : Nat} (params results : Array TypeId) (hp : params[0]? = some t) (ut : U P t (.slice e)) (ti : ElemOf P e F bytes) (s : SL σ B m d F ys) (r : Row σ A n c e' E xs) (hk : k ≤ c) :
    (Extern.SlicesOverlaps.overlaps params results #[.slice B m d, .slice (cutA E A l u c1) k c2]).run P σ.w = .ok (.bool false) σ.w := by
  have key : ∀ b o o' : Nat, ∀ b', B = some ⟨b', o', none⟩ → A = some ⟨b, 0, none⟩ → cutA E A l u c1 = some ⟨b, o, none⟩ → ¬ m = 0 → ¬ k = 0 → (Extern.SlicesOverlaps.overlaps params results #[.slice B m d, .slice (cutA E A l u c1) k c2]).run P σ.w = .ok (.bool false) σ.w := by
    intro b o o' b' hB hA hc hm hk0
    rcases s.rd with h0 | ⟨b2, o2, hB2, hnm, hlt, hcell⟩
    · omega
    rw [hB] at hB2; injection hB2 with hB2; injection hB2 with e1 e2; subst e1; subst e2
    have hMb : σ.M b := r.m _ hA
    have hne : (b' == b) = false := by
      rw [beq_eq_false_iff_ne]; rintro rfl; exact hnm hMb
    rcases r.full with ⟨ea, _⟩ | ⟨b3, zs, ea, hh, hzl, hzt, hzok⟩
    · rw [hA] at ea; cases ea
    rw [hA] at ea; injection ea with ea; injection ea with ea; subst ea
    have hsh : σ.w.shape? b = some (e', (E.flat zs).toArray.size) := by simp [World.shape?, hh]
    have hfz : ∀ o, σ.w.frozen? ⟨b, o, none⟩ = false := by intro o; simp [World.frozen?, hh]
    have hpos : 0 < (E.flat zs).toArray.size := by
      rw [E.flat_size, hzl]; exact Nat.mul_pos (by omega) E.pos
    have hsb : ∃ x1 x2, σ.w.shape? b' = some (x1, x2 + 1) := by
      have hl : 0 < (F.flat ys).length := by rw [F.flat_length, s.len]; exact Nat.mul_pos (by omega) F.pos
      have := hcell 0 _ (List.getElem?_eq_getElem hl)
      unfold World.cell? at this
      unfold World.shape?
      simp only [Nat.add_zero] at this
      split at this
      · rename_i cs e2 fz hb'
        simp only [Option.isSome_none, Bool.false_eq_true, if_false] at this
        have hsz := (Array.getElem?_eq_some_iff.1 this).1
        exact ⟨e2, cs.size - 1, by simp; omega⟩
      · cases this
    obtain ⟨x1, x2, hsb⟩ := hsb
    have hnz : ¬ (F.sz = 0) := by have := F.pos; omega
    have hst : (stringish ⟨b, o, none⟩).run P σ.w = .ok false σ.w := by
      simp [stringish, frozen, shape, Sem.run, hfz, hsh]
    have hm1 : (mayBeOne ⟨b', o', none⟩ ⟨b, o, none⟩).run P σ.w = .ok false σ.w := by
      unfold mayBeOne
      have : ∃ v, (stringish ⟨b', o', none⟩).run P σ.w = .ok v σ.w := by
        unfold stringish
        simp only [Sem.run_bind, frozen, Sem.run, Result.andThen_ok, shape, hsb]
        cases σ.w.frozen? ⟨b', o', none⟩ <;> simp [frozen, Sem.run, hsb]
      obtain ⟨v, hv⟩ := this
      have hno : (match σ.w.shape? b with | some (_, 0) => true | _ => false) = false := by
        rw [hsh]
        generalize hq : (E.flat zs).toArray.size = q at hpos
        match q, hpos with
        | q + 1, _ => rfl
      simp only [Sem.run_bind, hv, hst, Result.andThen_ok]
      cases v
      · simp [Sem.run]
      · have hq : ∃ q, (E.flat zs).toArray.size = q + 1 := ⟨(E.flat zs).toArray.size - 1, by omega⟩
        obtain ⟨q, hq⟩ := hq
        rw [hq] at hsh
        simp [shape, Sem.run, hsh, hsb]
    have hnv : ∀ y z, σ.w.shape? y = some z → ∀ o, (noView ⟨y, o, none⟩).run P σ.w = .ok () σ.w := by
      intro y z hy o
      simp [noView, viewAt, shape, Sem.run, hy]
    rw [hB, hc]
    conv => lhs; arg 2; whnf
    simp only [hp, Sem.run_bind, Sem.run_pure, run_underlying ut.h, Result.andThen_ok, ti.ti.run_sizeOf]
    rw [if_neg (by simp [hm, hk0, hnz])]
    simp [hne, hsb, hsh, frozen, Sem.run, hfz, hnv b' _ hsb, hnv b _ hsh, hm1]
  by_cases hm : m = 0
  · subst hm
    cases B <;> cases hc : cutA E A l u c1 <;> (conv => lhs; arg 2; whnf) <;> simp [hp, run_underlying ut.h, ti.ti.run_sizeOf]
  · by_cases hk0 : k = 0
    · subst hk0
      cases B <;> cases hc : cutA E A l u c1 <;> (conv => lhs; arg 2; whnf) <;> simp [hp, run_underlying ut.h, ti.ti.run_sizeOf]
    · rcases s.rd with h0 | ⟨b', o', hB, _⟩
      · omega
      rcases r.full with ⟨ea, hc0⟩ | ⟨b, zs, ea, _⟩
      · omega
      · have : ∃ o, cutA E A l u c1 = some ⟨b, o, none⟩ := by
          rw [ea]; unfold cutA; split
          · exact ⟨0, rfl⟩
          · exact ⟨0 + l * E.sz, by simp [add_at]⟩
        obtain ⟨o, hc⟩ := this
        exact key b o o' b' hB ea hc hm hk0
end
end Go.Proofs.Ytchdbmnikaacdaa

/- The engine, part 7: numbers: conversions, halves, quotients, bits.  -/
set_option linter.all false
namespace Go.Proofs.Ytchdbmnikaacdaa
open Go Go.RowKit
section
variable {P : Program} {f : Fr} {σ : St} {ty : TypeId}
theorem Fits.u64 {n : Int} (h : 0 ≤ n) (h' : n ≤ 18446744073709551615) : Fits .u64 n := ⟨by rw [IntKind.wrap_u64]; omega⟩
theorem Fits.u32 {n : Int} (h : 0 ≤ n) (h' : n ≤ 4294967295) : Fits .u32 n := ⟨by rw [IntKind.wrap_u32]; omega⟩
theorem Fits.u8 {n : Int} (h : 0 ≤ n) (h' : n ≤ 255) : Fits .u8 n := ⟨by rw [IntKind.wrap_u8]; omega⟩
theorem conv_run {src dst : TypeId} {d : TypeDesc} {k k' : IntKind} {n : Int} (us : U P src d) (ud : U P dst (.int k')) (w : World) : (convert src dst (.int k n)).run P w = .ok (.int k' (k'.wrap n)) w := by
  simp [convert, run_underlying us.h, run_underlying ud.h, Conv.intToInt]
instance (priority := low) StepV.conv {src dst : TypeId} {d : TypeDesc} {k k' : IntKind} {n : Int} {x : Operand} [h : Ev f x (.int k n)] [us : U P src d] [ud : U P dst (.int k')] : StepV P (.convert src dst x) ty f σ (.int k' (k'.wrap n)) :=
  ⟨by simp [execOp, h.eq, conv_run us ud]⟩
instance StepV.conv_fit {src dst : TypeId} {d : TypeDesc} {k k' : IntKind} {n : Int} {x : Operand} [h : Ev f x (.int k n)] [us : U P src d] [ud : U P dst (.int k')] [q : Fits k' n] : StepV P (.convert src dst x) ty f σ (.int k' n) :=
  ⟨by simp [execOp, h.eq, conv_run us ud, q.eq]⟩
class Half (n : Int) (m : outParam Int) : Prop where
  eq : n.fdiv 2 = m
instance Half.add {i j : Nat} : Half ((i : Int) + (j : Int)) (((i + j) / 2 : Nat) : Int) := ⟨by rw [Int.fdiv_eq_ediv_of_nonneg _ (by omega)]; omega⟩
instance StepV.shr1 {k k' : IntKind} {n m : Int} {t u : TypeId} {x : Operand} [h : Ev f x (.int k n)] [q : Half n m] : StepV P (.binOp .shr t x (.const (.int k' 1)) u) ty f σ (.int k m) :=
  ⟨by
    have hq := q.eq
    subst hq
    have hk : min (1 : Nat) k.bits = 1 := by cases k <;> rfl
    have hc : evo f (.const (.int k' 1)) = .int k' 1 := rfl
    simp [execOp, h.eq, hc, binOp, eqGuard, Op.shift, hk]⟩
class PosN (n : Nat) : Prop where
  pos : 0 < n
instance (priority := low) PosN.lit {n : Nat} [h : EqB (Nat.ble n 0) false] : PosN n := ⟨by
  have := h.eq
  exact Nat.lt_of_not_le fun k => by rw [Nat.ble_eq_true_of_le k] at this; cases this⟩
instance StepV.rem_nat {k : IntKind} {a b : Int} {i j : Nat} {t u : TypeId} {x y : Operand} [h : Ev f x (.int k a)] [g : Ev f y (.int k b)] [q : ToNat a i] [q' : ToNat b j] [p : PosN j] : StepV P (.binOp .rem t x y u) ty f σ (.int k ((i % j : Nat) : Int)) :=
  ⟨by
    have e1 := q.eq
    have e2 := q'.eq
    subst e1; subst e2
    have hj : j ≠ 0 := by have := p.pos; omega
    have hm : ((i : Int).tmod (j : Int)) = ((i % j : Nat) : Int) := (Int.ofNat_tmod i j).symm
    simp [execOp, h.eq, g.eq, binOp, eqGuard, Op.intDiv, hj, hm]⟩
end
end Go.Proofs.Ytchdbmnikaacdaa

/- Plain facts on sorting: swaps, insertion, rotation, merging.  -/
namespace Go.Proofs.Ytchdbmnikaacdaa
set_option linter.all false
section
variable {α : Type} [Inhabited α]
def swp (xs : List α) (i j : Nat) : List α := (xs.set i xs[j]!).set j xs[i]!
theorem swp_length (xs : List α) (i j : Nat) : (swp xs i j).length = xs.length := by simp [swp]
theorem set_mid {p q : List α} {x y : α} {j : Nat} (hj : j = p.length) : (p ++ x :: q).set j y = p ++ y :: q := by subst hj; simp
theorem get_mid {p q : List α} {x : α} {j : Nat} (hj : j = p.length) : (p ++ x :: q)[j]! = x := by
  subst hj
  rw [getElem!_pos _ _ (by simp)]
  simp

/-- sorted, by a comparison -/
def Srt (r : α → α → Int) (s : List α) : Prop := s.Pairwise fun x y => ¬ r y x < 0
class Weak (r : α → α → Int) : Prop where
  irr : ∀ x, ¬ r x x < 0
  asym : ∀ x y, r x y < 0 → ¬ r y x < 0
  tr : ∀ x y z, ¬ r y x < 0 → ¬ r z y < 0 → ¬ r z x < 0     -- x ≤ y ≤ z → x ≤ z

/-- two places change what they hold -/
theorem swp_mid (p u q : List α) (x y : α) {i j : Nat} (hi : i = p.length) (hj : j = p.length + u.length + 1) : swp (p ++ x :: (u ++ y :: q)) i j = p ++ y :: (u ++ x :: q) := by
  have h1 : (p ++ x :: (u ++ y :: q))[i]! = x := get_mid hi
  have e : p ++ x :: (u ++ y :: q) = (p ++ x :: u) ++ y :: q := by simp
  have h2 : (p ++ x :: (u ++ y :: q))[j]! = y := by rw [e]; exact get_mid (by simp; omega)
  unfold swp
  rw [h1, h2, set_mid hi]
  have e2 : p ++ y :: (u ++ y :: q) = (p ++ y :: u) ++ y :: q := by simp
  rw [e2, set_mid (by simp; omega)]
  simp
theorem swp_comm (xs : List α) (i j : Nat) (h : i ≠ j) : swp xs i j = swp xs j i := by
  unfold swp
  rw [List.set_comm _ _ h]
theorem srt_insert {r : α → α → Int} (w : Weak r) {u v : List α} {x : α} (h : Srt r (u ++ v)) (hv : ∀ y ∈ v, r x y < 0) (hu : u = [] ∨ ∃ u' y, u = u' ++ [y] ∧ ¬ r x y < 0) : Srt r (u ++ x :: v) := by
  unfold Srt at *
  rw [List.pairwise_append] at h ⊢
  obtain ⟨h1, h2, h3⟩ := h
  refine ⟨h1, List.pairwise_cons.2 ⟨fun y hy => w.asym _ _ (hv y hy), h2⟩, fun a ha b hb => ?_⟩
  rcases List.mem_cons.1 hb with rfl | hb
  · rcases hu with rfl | ⟨u', y, rfl, hy⟩
    · cases ha
    · rcases List.mem_append.1 ha with ha | ha
      · rw [List.pairwise_append] at h1
        exact w.tr a y b (h1.2.2 a ha y (by simp)) hy
      · simp at ha; subst ha; exact hy
  · exact h3 a ha b hb
/-- what an insertion has come to: x, which stood behind a sorted part, has come down to place j -/
def InsAt (r : α → α → Int) (p s : List α) (x : α) (q : List α) (j : Nat) (ys : List α) : Prop :=
  ∃ u v, s = u ++ v ∧ ys = p ++ (u ++ x :: (v ++ q)) ∧ j = p.length + u.length ∧ ∀ y ∈ v, r x y < 0
theorem InsAt.start {r : α → α → Int} {p s q : List α} {x : α} : InsAt r p s x q (p.length + s.length) (p ++ (s ++ x :: q)) := ⟨s, [], by simp, by simp, rfl, by simp⟩
theorem InsAt.len {r : α → α → Int} {p s q : List α} {x : α} {j : Nat} {ys : List α} (h : InsAt r p s x q j ys) : ys.length = p.length + s.length + 1 + q.length := by
  obtain ⟨u, v, rfl, rfl, _, _⟩ := h; simp; omega
theorem InsAt.step {r : α → α → Int} {p s q : List α} {x : α} {j : Nat} {ys : List α} (h : InsAt r p s x q j ys) (hj : p.length < j) (hc : r ys[j]! ys[j - 1]! < 0) : InsAt r p s x q (j - 1) (swp ys j (j - 1)) := by
  obtain ⟨u, v, rfl, rfl, rfl, hv⟩ := h
  rcases List.eq_nil_or_concat u with rfl | ⟨u', y, rfl⟩
  · simp at hj
  · simp only [List.concat_eq_append] at hj hc ⊢
    have e : p ++ ((u' ++ [y]) ++ x :: (v ++ q)) = (p ++ u') ++ y :: ([] ++ x :: (v ++ q)) := by simp
    have g1 : (p ++ ((u' ++ [y]) ++ x :: (v ++ q)))[p.length + (u' ++ [y]).length]! = x := by
      have e' : p ++ ((u' ++ [y]) ++ x :: (v ++ q)) = (p ++ (u' ++ [y])) ++ x :: (v ++ q) := by simp
      rw [e']; exact get_mid (by simp)
    have g2 : (p ++ ((u' ++ [y]) ++ x :: (v ++ q)))[p.length + (u' ++ [y]).length - 1]! = y := by rw [e]; exact get_mid (by simp)
    rw [g1, g2] at hc
    refine ⟨u', y :: v, by simp, ?_, by simp, fun z hz => ?_⟩
    · rw [swp_comm _ _ _ (by simp), e, swp_mid (p ++ u') [] (v ++ q) y x (by simp) (by simp; omega)]
      simp
    · rcases List.mem_cons.1 hz with rfl | hz
      · exact hc
      · exact hv z hz
theorem InsAt.done {r : α → α → Int} (w : Weak r) {p s q : List α} {x : α} {j : Nat} {ys : List α} (h : InsAt r p s x q j ys) (hs : Srt r s) (hj : j = p.length ∨ (p.length < j ∧ ¬ r ys[j]! ys[j - 1]! < 0)) :
    ∃ s', ys = p ++ (s' ++ q) ∧ s'.Perm (s ++ [x]) ∧ Srt r s' := by
  obtain ⟨u, v, rfl, rfl, rfl, hv⟩ := h
  refine ⟨u ++ x :: v, by simp, ?_, srt_insert w hs hv ?_⟩
  · have : (u ++ x :: v).Perm (x :: (u ++ v)) := List.perm_middle
    exact this.trans (List.perm_append_singleton x (u ++ v)).symm
  · rcases hj with hj | ⟨hj, hc⟩
    · exact .inl (List.eq_nil_of_length_eq_zero (by omega))
    · rcases List.eq_nil_or_concat u with rfl | ⟨u', y, rfl⟩
      · simp at hj
      · simp only [List.concat_eq_append] at hj hc ⊢
        refine .inr ⟨u', y, by simp, ?_⟩
        have g1 : (p ++ ((u' ++ [y]) ++ x :: (v ++ q)))[p.length + ((u' ++ [y])).length]! = x := by
          have e' : p ++ ((u' ++ [y]) ++ x :: (v ++ q)) = (p ++ (u' ++ [y])) ++ x :: (v ++ q) := by simp
          rw [e']; exact get_mid (by simp)
        have g2 : (p ++ ((u' ++ [y]) ++ x :: (v ++ q)))[p.length + ((u' ++ [y])).length - 1]! = y := by
          have e' : p ++ ((u' ++ [y]) ++ x :: (v ++ q)) = (p ++ u') ++ y :: x :: (v ++ q) := by simp
          rw [e']; exact get_mid (by simp)
        rwa [g1, g2] at hc

theorem InsAt.le {r : α → α → Int} {p s q : List α} {x : α} {j : Nat} {ys : List α} (h : InsAt r p s x q j ys) : p.length ≤ j ∧ j ≤ p.length + s.length := by
  obtain ⟨u, v, rfl, rfl, rfl, _⟩ := h; simp
/-- a part of a list: places a to b (b left out) -/
def seg (xs : List α) (a b : Nat) : List α := (xs.drop a).take (b - a)
theorem seg_split (xs : List α) {a b : Nat} (h : a ≤ b) (hb : b ≤ xs.length) : xs = xs.take a ++ (seg xs a b ++ xs.drop b) := by
  unfold seg
  have : xs.drop b = (xs.drop a).drop (b - a) := by rw [List.drop_drop]; congr 1; omega
  rw [this, List.take_append_drop, List.take_append_drop]
theorem seg_length (xs : List α) {a b : Nat} (h : a ≤ b) (hb : b ≤ xs.length) : (seg xs a b).length = b - a := by simp [seg]; omega
theorem seg_succ (xs : List α) {a b : Nat} (h : a ≤ b) (hb : b < xs.length) : seg xs a (b + 1) = seg xs a b ++ [xs[b]!] := by
  unfold seg
  rw [show b + 1 - a = (b - a) + 1 by omega, List.take_succ_eq_append_getElem (by simp; omega)]
  congr 1
  rw [getElem!_pos xs b hb, List.getElem_drop]
  congr 1
  congr 1
  omega
/-- the round of the outer loop of an insertion sort: places a to i are sorted, the rest is as it was -/
def InsTo (r : α → α → Int) (xs : List α) (a i : Nat) (ys : List α) : Prop := ∃ s, ys = xs.take a ++ (s ++ xs.drop i) ∧ s.Perm (seg xs a i) ∧ Srt r s
theorem InsTo.start {r : α → α → Int} {xs : List α} {a : Nat} (h : a < xs.length) : InsTo r xs a (a + 1) xs := by
  refine ⟨seg xs a (a + 1), seg_split xs (by omega) (by omega), List.Perm.refl _, ?_⟩
  have : (seg xs a (a + 1)).length = 1 := by rw [seg_length xs (by omega) (by omega)]; omega
  match h' : seg xs a (a + 1), this with
  | [x], _ => exact List.pairwise_singleton _ _
theorem InsTo.enter {r : α → α → Int} {xs ys : List α} {a i : Nat} (h : InsTo r xs a i ys) (hai : a ≤ i) (hi : i < xs.length) : ∃ s, s.Perm (seg xs a i) ∧ Srt r s ∧ (xs.take a).length = a ∧ s.length = i - a ∧ InsAt r (xs.take a) s xs[i]! (xs.drop (i + 1)) i ys := by
  obtain ⟨s, rfl, hp, hs⟩ := h
  have h1 : (xs.take a).length = a := by simp; omega
  have h2 : s.length = i - a := by rw [hp.length_eq, seg_length xs hai (by omega)]
  refine ⟨s, hp, hs, h1, h2, ?_⟩
  have e : xs.drop i = xs[i]! :: xs.drop (i + 1) := by rw [List.drop_eq_getElem_cons hi, getElem!_pos xs i hi]
  have := InsAt.start (r := r) (p := xs.take a) (s := s) (q := xs.drop (i + 1)) (x := xs[i]!)
  rw [h1, h2, ← e] at this
  rwa [show a + (i - a) = i by omega] at this
theorem InsTo.leave {r : α → α → Int} (w : Weak r) {xs zs s : List α} {a i j : Nat} (hp : s.Perm (seg xs a i)) (hs : Srt r s) (h1 : (xs.take a).length = a) (hai : a ≤ i) (hi : i < xs.length) (h : InsAt r (xs.take a) s xs[i]! (xs.drop (i + 1)) j zs)
    (hj : j = a ∨ (a < j ∧ ¬ r zs[j]! zs[j - 1]! < 0)) : InsTo r xs a (i + 1) zs := by
  obtain ⟨s', e, hp', hs'⟩ := h.done w hs (by rw [h1]; exact hj)
  refine ⟨s', e, ?_, hs'⟩
  rw [seg_succ xs hai hi]
  exact hp'.trans (hp.append_right _)
/-- what a sort of places a to b came to -/
abbrev SortedSeg (r : α → α → Int) (xs : List α) (a b : Nat) (ys : List α) : Prop := InsTo r xs a b ys
theorem SortedSeg.none_ {r : α → α → Int} {xs : List α} {a : Nat} : SortedSeg r xs a a xs := ⟨[], by simp, by simp [seg], List.Pairwise.nil⟩
theorem swp_eq (xs : List α) (i j : Nat) : (xs.set i xs[j]!).set j xs[i]! = swp xs i j := rfl
end
end Go.Proofs.Ytchdbmnikaacdaa

/- Function values that answer by a plain function; plain facts on lists.  -/
set_option linter.all false
namespace Go.Proofs.Ytchdbmnikaacdaa
open Go Go.RowKit
section
variable {P : Program} {f : Fr} {σ : St} {ty : TypeId}
instance StepV.extract {x : Operand} {l : List Value} {i : Nat} {v : Value} [h : Ev f x (.tuple l.toArray)] [a : AtA l i v] : StepV P (.extract x i) ty f σ v := ⟨by
  have := a.eq
  simp [execOp, h.eq, Instr.extract, this]⟩
instance StepV.makeFunc {fn : Fn} {fst cap : List Operand} {us vs : List Value} [h : EvL f fst us] [g : EvL f cap vs] : StepV P (.makeFunc fn fst.toArray cap.toArray) ty f σ (.func fn us.toArray vs.toArray) := ⟨by
  simp [execOp, Instr.makeFunc, h.eq, g.eq]⟩
end
/-- what a plain answer is, where it is known: laid by hand ahead of the step -/
class Is {β : Type} (x : β) (v : outParam β) : Prop where
  eq : x = v
instance (priority := low) Is.self {β : Type} {x : β} : Is x x := ⟨rfl⟩
/-- a place, or none, as a number -/
def optI : Option Nat → Int
  | none => -1
  | some i => i
class OptI (o : Option Nat) (v : outParam Int) : Prop where
  eq : optI o = v
instance OptI.none_ : OptI none (-1) := ⟨rfl⟩
instance OptI.some_ {i : Nat} : OptI (some i) (i : Int) := ⟨rfl⟩
instance (priority := low) OptI.self {o : Option Nat} : OptI o (optI o) := ⟨rfl⟩
/-- a function value that answers yes or no, as long as no more than X turns -/
class PredF (P : Program) (σ : St) (X : Xs) (fv : Value) {α : outParam Type} (E : outParam (Elem α)) (p : outParam (α → Bool)) : Prop where
  rule : ∀ (σ' : St) (x : α), Nx σ σ' X → OkE σ' E x → ValRule P fv [E.val x] σ' (fun K _ => ∀ σ'', Nx σ' σ'' .no → K (.bool (p x)) σ'')
/-- a function literal that has one variable of ours: what it answers, as long as the variable holds cs -/
class Clos1 (P : Program) (g : FuncId) (t : TypeId) (cs : Array Value) {α : outParam Type} (E : outParam (Elem α)) (p : outParam (α → Bool)) : Prop where
  rule : ∀ (σ : St) (b : Nat) (x : α), Own σ b t cs → OkE σ E x → CallRule P g [E.val x, .pointer (some ⟨b, 0, none⟩)] σ (fun K _ => ∀ σ', Nx σ σ' .no → K (.bool (p x)) σ')
instance PredF.clos1 {P : Program} {σ : St} {X : Xs} {g : FuncId} {b : Nat} {t : TypeId} {cs : Array Value} {α : Type} {E : Elem α} {p : α → Bool} [i : Fnc P g] [o : Own σ b t cs] [c : Clos1 P g t cs E p] [k : Mis σ X b t] : PredF P σ X (.func (.func g) #[] #[.pointer (some ⟨b, 0, none⟩)]) E p :=
  ⟨fun σ' x n ok => by
    haveI := c.rule σ' b x (o.lift n.p (k.h _ _ o.h n.p.ty)) ok
    exact ValRule.closure (cap := [.pointer (some ⟨b, 0, none⟩)])⟩
class Clos0 (P : Program) (g : FuncId) {α : outParam Type} (E : outParam (Elem α)) (p : outParam (α → Bool)) : Prop where
  rule : ∀ (σ : St) (x : α), OkE σ E x → CallRule P g [E.val x] σ (fun K _ => ∀ σ', Nx σ σ' .no → K (.bool (p x)) σ')
instance PredF.clos0 {P : Program} {σ : St} {X : Xs} {g : FuncId} {α : Type} {E : Elem α} {p : α → Bool} [i : Fnc P g] [c : Clos0 P g E p] : PredF P σ X (.func (.func g) #[] #[]) E p :=
  ⟨fun σ' x n ok => by
    haveI := c.rule σ' x ok
    exact ValRule.static⟩
section
variable {α : Type} [Inhabited α]
theorem take_snoc {xs : List α} {i : Nat} (h : i < xs.length) : xs.take (i + 1) = xs.take i ++ [xs[i]!] := by
  rw [List.take_succ_eq_append_getElem h, getElem!_pos xs i h]
theorem drop_cons {xs : List α} {i : Nat} (h : i < xs.length) : xs.drop i = xs[i]! :: xs.drop (i + 1) := by
  rw [List.drop_eq_getElem_cons h, getElem!_pos xs i h]
/-- the first that is so lies at i -/
theorem findIdx_at {p : α → Bool} {xs : List α} {i : Nat} (h : i < xs.length) (h1 : ∀ x ∈ xs.take i, p x = false) (h2 : p xs[i]! = true) : xs.findIdx? p = some i := by
  rw [List.findIdx?_eq_some_iff_getElem]
  refine ⟨h, by rw [getElem!_pos xs i h] at h2; exact h2, fun j hj => ?_⟩
  have := h1 xs[j] (by rw [List.mem_take_iff_getElem]; exact ⟨j, by omega, rfl⟩)
  simp [this]
theorem findIdx_none {p : α → Bool} {xs : List α} (h : ∀ x ∈ xs, p x = false) : xs.findIdx? p = none := by
  rw [List.findIdx?_eq_none_iff]; exact h
theorem all_take_succ {q : α → Prop} {xs : List α} {i : Nat} (h : i < xs.length) (h1 : ∀ x ∈ xs.take i, q x) (h2 : q xs[i]!) : ∀ x ∈ xs.take (i + 1), q x := by
  intro x hx
  rw [take_snoc h] at hx
  rcases List.mem_append.1 hx with hx | hx
  · exact h1 x hx
  · rw [List.mem_singleton] at hx; subst hx; exact h2
theorem spl_eq {xs p q r vs : List α} {l n : Nat} (hx : xs = p ++ q ++ r) (hl : p.length = l) (hq : q.length = vs.length) (hn : xs.length = n) : (xs.take l ++ vs ++ xs.drop (l + vs.length)).take n = p ++ vs ++ r := by
  subst hl
  have h1 : xs.take p.length = p := by rw [hx, List.append_assoc, List.take_left]
  have h2 : xs.drop (p.length + vs.length) = r := by
    have : p.length + vs.length = (p ++ q).length := by simp [hq]
    rw [hx, this, List.drop_left]
  rw [h1, h2]
  apply List.take_of_length_le
  rw [← hn, hx]; simp [hq]
theorem cons_of_pos {l : List α} (h : 0 < l.length) : l = l[0]! :: l.drop 1 := by
  match l, h with
  | a :: l, _ => rfl
instance {r : α → α → Int} {s : List α} : Decidable (Srt r s) := inferInstanceAs (Decidable (List.Pairwise _ _))
/-- sorted, told by neighbours -/
theorem srt_of_adj {r : α → α → Int} [w : Weak r] {xs : List α} (h : ∀ i, 0 < i → i < xs.length → ¬ r xs[i]! xs[i - 1]! < 0) : Srt r xs := by
  have key : ∀ (j i : Nat), i + j < xs.length → ¬ r xs[i + j]! xs[i]! < 0 := by
    intro j
    induction j with
    | zero => intro i _; exact w.irr _
    | succ j ih =>
      intro i hij
      have h1 := ih i (by omega)
      have h2 := h (i + j + 1) (by omega) hij
      rw [Nat.add_sub_cancel] at h2
      exact w.tr _ _ _ h1 h2
  unfold Srt
  rw [List.pairwise_iff_getElem]
  intro i j hi hj hij
  have := key (j - i) i (by omega)
  rw [show i + (j - i) = j by omega] at this
  rwa [getElem!_pos xs j hj, getElem!_pos xs i hi] at this
theorem srt_adj' {r : α → α → Int} {xs : List α} (h : Srt r xs) {i : Nat} (h0 : 0 < i) (h1 : i < xs.length) : ¬ r xs[i]! xs[i - 1]! < 0 := by
  unfold Srt at h
  rw [List.pairwise_iff_getElem] at h
  have := h (i - 1) i (by omega) h1 (by omega)
  rwa [getElem!_pos xs i h1, getElem!_pos xs (i - 1) (by omega)]
/-- how many lie below -/
def lowI (r : α → α → Int) (xs : List α) (t : α) : Nat := (xs.takeWhile fun x => decide (r x t < 0)).length
theorem lowI_of {r : α → α → Int} {xs : List α} {t : α} {i : Nat} (hi : i ≤ xs.length) (h1 : ∀ k, k < i → r xs[k]! t < 0) (h2 : i < xs.length → ¬ r xs[i]! t < 0) : lowI r xs t = i := by
  unfold lowI
  induction xs generalizing i with
  | nil => simp at hi; subst hi; rfl
  | cons x xs ih =>
    cases i with
    | zero =>
      have := h2 (by simp)
      simp at this
      simp [List.takeWhile_cons, this]
    | succ i =>
      have hx := h1 0 (by omega)
      simp at hx
      rw [List.takeWhile_cons]
      simp only [hx, decide_true, if_true, List.length_cons]
      rw [ih (by simpa using hi) (fun k hk => by have := h1 (k + 1) (by omega); simpa using this) (fun h => by have := h2 (by simpa using h); simpa using this)]
theorem srt_mono {r : α → α → Int} [w : Weak r] {xs : List α} {t : α} (h : Srt r xs) {i j : Nat} (hij : i ≤ j) (hj : j < xs.length) : (r xs[j]! t < 0 → r xs[i]! t < 0) := by
  intro h1
  rcases Nat.lt_or_ge i j with hl | hg
  · unfold Srt at h
    rw [List.pairwise_iff_getElem] at h
    have h2 := h i j (by omega) hj hl
    rw [← getElem!_pos xs j hj, ← getElem!_pos xs i (by omega)] at h2
    by_cases h3 : r xs[i]! t < 0
    · exact h3
    · exact absurd h1 (w.tr _ _ _ h3 h2)
  · have : i = j := by omega
    subst this; exact h1
theorem take_all {xs : List α} {n : Nat} (h : xs.length = n) : xs.take n = xs := List.take_of_length_le (by omega)
end
end Go.Proofs.Ytchdbmnikaacdaa
