/- The engine, part 1: frames as functions, states, and the judgements 'WL' (a list of operations), 'WC' (code), with one step per operation found by instances. No condition. -/
import Derived.WalkKit
import Derived.Orders
import Derived.Test.YthdhnkgnbdociaaProg
set_option linter.all false
namespace Go.Proofs.Ythdhnkgnbdociaa
open Go Go.RowKit

/-! ### Numbers that differ -/
class NeN (a b : Nat) : Prop where
  ne : a ≠ b
class EqB (a b : Bool) : Prop where
  eq : a = b
instance eqBrefl {a : Bool} : EqB a a := ⟨rfl⟩
theorem ne_of_beq_f {a b : Nat} (h : Nat.beq a b = false) : a ≠ b := fun e => by subst e; simp at h
instance neNbeq {a b : Nat} [h : EqB (Nat.beq a b) false] : NeN a b := ⟨ne_of_beq_f h.eq⟩
class EqN (a b : Nat) : Prop where
  eq : a = b
instance EqN.refl {a : Nat} : EqN a a := ⟨rfl⟩
class LtN (a b : Nat) : Prop where
  lt : a < b
theorem lt_of_blt {a b : Nat} (h : Nat.blt a b = true) : a < b := Nat.le_of_ble_eq_true h

/-! ### Frames -/
abbrev Fr := Nat → Value
def fr (a : Act) : Fr := fun j => a.tmps.getD j undef
def upd (f : Fr) (d : Nat) (v : Value) : Fr := fun j => if j = d then v else f j
def evo (f : Fr) : Operand → Value
  | .tmp t => f t
  | .const v => v
  | .global g => .pointer (some ⟨g, 0, none⟩)
  | .func g => .func (.func g) #[] #[]
theorem eval_fr (a : Act) : a.eval = evo (fr a) := by funext x; cases x <;> rfl
theorem fr_put {a : Act} {d : Nat} {v : Value} (h : d < a.tmps.size) : fr (a.put (some d) v) = upd (fr a) d v := by
  funext j
  unfold fr upd Act.put
  by_cases e : j = d
  · subst e; simp [h]
  · simp [e, Array.getElem?_setIfInBounds_ne (Ne.symm e)]
theorem fr_put_none {a : Act} {v : Value} : fr (a.put none v) = fr a := rfl
theorem size_put {a : Act} {d : Option Nat} {v : Value} : (a.put d v).tmps.size = a.tmps.size := by cases d <;> simp [Act.put]
theorem defers_put {a : Act} {d : Option Nat} {v : Value} : (a.put d v).defers = a.defers := by cases d <;> rfl
theorem upd_self {f : Fr} {d : Nat} {v : Value} (h : f d = v) : upd f d v = f := by
  funext j; unfold upd; split
  · rename_i e; rw [e, h]
  · rfl

class At (f : Fr) (j : Nat) (v : outParam Value) : Prop where
  eq : f j = v
instance At.hit {f : Fr} {d : Nat} {v : Value} : At (upd f d v) d v := ⟨by simp [upd]⟩
instance (priority := low) At.miss {f : Fr} {j d : Nat} {u v : Value} [h : NeN j d] [g : At f j v] : At (upd f d u) j v := ⟨by unfold upd; rw [if_neg h.ne]; exact g.eq⟩

theorem mul_nz {a b : Nat} (h : Nat.mul a b ≠ 0) : a ≠ 0 ∧ b ≠ 0 := ⟨fun e => h (by subst e; exact Nat.zero_mul b), fun e => h (by subst e; exact Nat.mul_zero a)⟩
theorem xor_nz {a b : Nat} (h : Nat.xor a b ≠ 0) : a ≠ b := fun e => h (by subst e; exact Nat.xor_self a)
instance (priority := low) At.miss4 {f : Fr} {j a b c d : Nat} {t u w x v : Value} [h : EqB (Nat.beq (Nat.mul (Nat.xor j a) (Nat.mul (Nat.xor j b) (Nat.mul (Nat.xor j c) (Nat.xor j d)))) 0) false] [g : At f j v] : At (upd (upd (upd (upd f d x) c w) b u) a t) j v := ⟨by
  obtain ⟨h1, h0⟩ := mul_nz (ne_of_beq_f h.eq)
  obtain ⟨h2, h0⟩ := mul_nz h0
  obtain ⟨h3, h4⟩ := mul_nz h0
  unfold upd
  rw [if_neg (xor_nz h1), if_neg (xor_nz h2), if_neg (xor_nz h3), if_neg (xor_nz h4)]
  exact g.eq⟩
/-- a frame that differs at most at the places that W names -/
def bitN (W j : Nat) : Bool := Nat.beq (Nat.land (Nat.shiftRight W j) 1) 1
class Agree (f : Fr) (W : outParam Nat) (f0 : outParam Fr) : Prop where
  h : ∀ j, Nat.beq (Nat.land (Nat.shiftRight W j) 1) 1 = false → f j = f0 j
theorem Agree.rfl {f : Fr} {W : Nat} : Agree f W f := ⟨fun _ _ => _root_.rfl⟩
instance (priority := low) At.agree {f f0 : Fr} {W j : Nat} {v : Value} [h : Agree f W f0] [k : EqB (Nat.beq (Nat.land (Nat.shiftRight W j) 1) 1) false] [g : At f0 j v] : At f j v := ⟨(h.h j k.eq).trans g.eq⟩
/-- the same, asked for -/
class AgreeG (f : Fr) (W : Nat) (f0 : Fr) : Prop where
  h : Agree f W f0
instance AgreeG.refl {f : Fr} {W : Nat} : AgreeG f W f := ⟨Agree.rfl⟩
instance (priority := high) AgreeG.self {f f0 : Fr} {W : Nat} [h : Agree f W f0] : AgreeG f W f0 := ⟨h⟩
instance (priority := low) AgreeG.upd {f f0 : Fr} {W d : Nat} {v : Value} [k : EqB (Nat.beq (Nat.land (Nat.shiftRight W d) 1) 1) true] [h : AgreeG f W f0] : AgreeG (upd f d v) W f0 := ⟨⟨fun j hj => by
  unfold Go.Proofs.Ythdhnkgnbdociaa.upd
  split
  · rename_i e; subst e; rw [k.eq] at hj; cases hj
  · exact h.h.h j hj⟩⟩
instance (priority := low) AgreeG.tr {f f0 f1 : Fr} {W W1 : Nat} [h : Agree f W1 f1] [k : EqB (Nat.beq (Nat.lor W1 W) W) true] [g : AgreeG f1 W f0] : AgreeG f W f0 := ⟨⟨fun j hj => by
  have e : ∀ V, Nat.beq (Nat.land (Nat.shiftRight V j) 1) 1 = V.testBit j := fun V => by
    show Nat.beq ((V >>> j) &&& 1) 1 = _
    unfold Nat.testBit
    rw [Nat.and_comm]
    rcases Nat.mod_two_eq_zero_or_one (V >>> j) with h | h <;> simp [Nat.one_and_eq_mod_two, h] <;> rfl
  have hl : W1 ||| W = W := Nat.eq_of_beq_eq_true k.eq
  have hw := h.h j
  have gw := g.h.h j
  rw [e] at hj hw gw
  rw [← hl, Nat.testBit_or, Bool.or_eq_false_iff] at hj
  exact (hw hj.1).trans (gw hj.2)⟩⟩

theorem At.to {f : Fr} {j : Nat} {u : Value} (v : Value) [h : At f j v] (e : v = u) : At f j u := ⟨h.eq.trans e⟩
class Ev (f : Fr) (x : Operand) (v : outParam Value) : Prop where
  eq : evo f x = v
instance Ev.tmp {f : Fr} {j : Nat} {v : Value} [h : At f j v] : Ev f (.tmp j) v := ⟨h.eq⟩
instance Ev.const {f : Fr} {v : Value} : Ev f (.const v) v := ⟨rfl⟩
instance Ev.func {f : Fr} {g : FuncId} : Ev f (.func g) (.func (.func g) #[] #[]) := ⟨rfl⟩
class EvL (f : Fr) (xs : List Operand) (vs : outParam (List Value)) : Prop where
  eq : xs.map (evo f) = vs
instance EvL.nil {f : Fr} : EvL f [] [] := ⟨rfl⟩
instance EvL.cons {f : Fr} {x : Operand} {xs : List Operand} {v : Value} {vs : List Value} [h : Ev f x v] [g : EvL f xs vs] : EvL f (x :: xs) (v :: vs) := ⟨by simp [h.eq, g.eq]⟩

/-! ### States: a world, and the blocks that may still turn -/
structure St where
  w : World
  M : Nat → Prop
  wf : ∀ b, M b → b < w.heap.size

inductive Xs where
  | no
  | one (b : Nat) (t : TypeId)
  | row (A : Option Addr) (t : TypeId)
  | map (r : Nat)
  | many (p : Nat → Prop)
  | un (X Y : Xs)

def Xs.hits : Xs → Nat → Prop
  | .no, _ => False
  | .one b' _, b => b = b'
  | .row A _, b => ∃ a, A = some a ∧ a.block = b
  | .map r, b => b = r
  | .many p, b => p b
  | .un X Y, b => X.hits b ∨ Y.hits b
/-- what these blocks are -/
def Xs.typed : Xs → World → Prop
  | .no, _ => True
  | .one b t, w => ∃ cs fz, w.heap[b]? = some (.cells cs t fz)
  | .row A t, w => ∀ a, A = some a → ∃ cs fz, w.heap[a.block]? = some (.cells cs t fz)
  | .map r, w => ∃ es ck, w.heap[r]? = some (.map es ck)
  | .many _, _ => True
  | .un X Y, w => X.typed w ∧ Y.typed w

structure NxP (σ σ' : St) (X : Xs) : Prop where
  os : σ'.w.os = σ.w.os
  tape : σ'.w.tape = σ.w.tape
  output : σ'.w.output = σ.w.output
  size : σ.w.heap.size ≤ σ'.w.heap.size
  imm : ∀ b, b < σ.w.heap.size → ¬ σ.M b → σ'.w.heap[b]? = σ.w.heap[b]?
  mm : ∀ b, b < σ.w.heap.size → σ'.M b → σ.M b
  own : ∀ b, b < σ.w.heap.size → ¬ X.hits b → σ'.w.heap[b]? = σ.w.heap[b]? ∧ (σ.M b → σ'.M b)
  ty : X.typed σ.w

class Nx (σ : outParam St) (σ' : St) (X : outParam Xs) : Prop where
  p : NxP σ σ' X

theorem NxP.refl (σ : St) : NxP σ σ .no :=
  ⟨rfl, rfl, rfl, Nat.le_refl _, fun _ _ _ => rfl, fun _ _ h => h, fun _ _ _ => ⟨rfl, id⟩, trivial⟩

/-- 'σ' comes of σ0, and all blocks that were there are as they were. -/
class Sub (σ0 σ : St) : Prop where
  b : Below σ0.w.heap.size σ0.w σ.w
  m : ∀ b, σ0.M b → σ.M b
  mm : ∀ b, b < σ0.w.heap.size → σ.M b → σ0.M b

/-! ### One operation -/
def OpW (P : Program) (op : Op) (ty : TypeId) (f : Fr) (w : World) (K : Value → World → Prop) (E : List PanicEntry → World → Prop) : Prop :=
  match (execOp (evo f) ⟨none, op, ty, "", #[], none⟩).run P w with
  | .ok (.value v) w' => K v w'
  | .ok .skip w' => K undef w'
  | .ok (.enter g args) w' => Calls P g args w' fun
      | .returned v, w'' => K v w''
      | .panicked c, w'' => E c w''
      | .outgrown, _ => False
  | .halt (.panic v) w' => E [{ v, recovered := false }] w'
  | _ => False

theorem execOp_shape (ρ : Operand → Value) (d : Option Nat) (op : Op) (ty : TypeId) (pos : String) (aft : Array Edge) (g : Option (Nat × Bool)) :
    execOp ρ ⟨d, op, ty, pos, aft, g⟩ = execOp ρ ⟨none, op, ty, "", #[], none⟩ := rfl

theorem Oper.wp_of_OpW {P : Program} {o : Oper} {a : Act} {w : World} {next : Act → World → Prop} {Q : Exit → Act → World → Prop} {E : List PanicEntry → World → Prop}
    (h : OpW P o.op o.type (fr a) w (fun v w' => next (a.put o.dst v) w') E) (hE : ∀ c w', E c w' → Q (.panic c) a w') : o.wp P a w next Q := by
  obtain ⟨d, op, ty, pos, aft, g⟩ := o
  unfold OpW at h
  unfold Oper.wp
  rw [eval_fr, execOp_shape]
  simp only at h
  generalize (execOp (evo (fr a)) ⟨none, op, ty, "", #[], none⟩).run P w = r at *
  cases r with
  | ok x w' =>
    cases x <;> simp only [Oper.upon] at h ⊢ <;> try exact h
    case enter g args =>
      refine h.mono fun e w'' he => ?_
      cases e with
      | returned v => exact he
      | panicked c => exact hE _ _ he
      | outgrown => exact he.elim
  | halt x w' =>
    cases x <;> simp only [Oper.upon] at h ⊢ <;> try exact h
    case panic v => exact hE _ _ h

theorem OpW.mono {P : Program} {op : Op} {ty : TypeId} {f : Fr} {w : World} {K K' : Value → World → Prop} {E E' : List PanicEntry → World → Prop}
    (h : OpW P op ty f w K E) (hK : ∀ v w', K v w' → K' v w') (hE : ∀ c w', E c w' → E' c w') : OpW P op ty f w K' E' := by
  unfold OpW at *
  generalize (execOp (evo f) ⟨none, op, ty, "", #[], none⟩).run P w = r at *
  cases r with
  | ok x w' =>
    cases x <;> simp only at h ⊢ <;> try exact hK _ _ h
    case enter g args =>
      refine h.mono fun e w'' he => ?_
      cases e with
      | returned v => exact hK _ _ he
      | panicked c => exact hE _ _ he
      | outgrown => exact he
  | halt x w' =>
    cases x <;> simp only at h ⊢
    case panic v => exact hE _ _ h

abbrev KV := Value → St → Prop
abbrev KE := List PanicEntry → St → Prop
abbrev Tr := KV → KE → Prop

class Step (P : Program) (op : Op) (ty : TypeId) (f : Fr) (σ : St) (S : outParam Tr) : Prop where
  sound : ∀ (K : KV) (E : KE), S K E → OpW P op ty f σ.w (fun v w' => ∃ σ' : St, σ'.w = w' ∧ K v σ') (fun c w' => ∃ σ' : St, σ'.w = w' ∧ E c σ')

/-! ### A list of operations -/
abbrev PostQ := Exit → List Deferred → Fr → St → Prop
def LQ (n : Nat) (Q : PostQ) : Exit → Act → World → Prop := fun e a w => a.tmps.size = n ∧ ∃ σ : St, σ.w = w ∧ Q e a.defers (fr a) σ

def WL (P : Program) (ops : Array Oper) (n : Nat) (Q : PostQ) (l : List Oper) (D : List Deferred) (f : Fr) (σ : St) : Prop :=
  ∀ a : Act, a.tmps.size = n → a.defers = D → fr a = f → wpList P ops (LQ n Q) l a σ.w

section
variable {P : Program} {ops : Array Oper} {n : Nat} {Q : PostQ} {l : List Oper} {D : List Deferred} {f : Fr} {σ : St}

theorem WL.nil (h : Q .normal D f σ) : WL P ops n Q [] D f σ := by
  rintro a hn rfl rfl
  exact ⟨hn, σ, rfl, h⟩

theorem WL.step {d : Nat} {op : Op} {ty : TypeId} {pos : String} {aft : Array Edge} {S : Tr} [i : Step P op ty f σ S] (hd : Nat.blt d n = true)
    (h : S (fun v σ' => WL P ops n Q l D (upd f d v) σ') (fun c σ' => Q (.panic c) D f σ')) :
    WL P ops n Q (⟨some d, op, ty, pos, aft, none⟩ :: l) D f σ := by
  rintro a hn rfl rfl
  refine wpList_plain rfl (fun K hK => ?_)
  refine Oper.wp_of_OpW (E := fun c w' => ∃ σ' : St, σ'.w = w' ∧ Q (.panic c) a.defers (fr a) σ') ?_ (fun c w' hc => ⟨hn, hc⟩)
  refine (i.sound _ _ h).mono ?_ (fun _ _ h => h)
  rintro v _ ⟨σ', rfl, h'⟩
  exact hK _ _ (h' _ (by rw [size_put, hn]) defers_put (fr_put (by rw [hn]; exact lt_of_blt hd)))

theorem WL.stepR {d : Nat} {op : Op} {ty : TypeId} {pos : String} {aft : Array Edge} {S : Tr} [i : Step P op ty f σ S] [hd : EqB (Nat.ble n d) false]
    (h : S (fun v σ' => WL P ops n Q l D (upd f d v) σ') (fun c σ' => Q (.panic c) D f σ')) :
    WL P ops n Q (⟨some d, op, ty, pos, aft, none⟩ :: l) D f σ := by
  refine WL.step (Nat.ble_eq_true_of_le (?_ : d + 1 ≤ n)) h
  have := hd.eq
  exact Nat.lt_of_not_le fun k => by rw [Nat.ble_eq_true_of_le k] at this; cases this
theorem WL.step0 {op : Op} {ty : TypeId} {pos : String} {aft : Array Edge} {S : Tr} [i : Step P op ty f σ S]
    (h : S (fun _ σ' => WL P ops n Q l D f σ') (fun c σ' => Q (.panic c) D f σ')) :
    WL P ops n Q (⟨none, op, ty, pos, aft, none⟩ :: l) D f σ := by
  rintro a hn rfl rfl
  refine wpList_plain rfl (fun K hK => ?_)
  refine Oper.wp_of_OpW (E := fun c w' => ∃ σ' : St, σ'.w = w' ∧ Q (.panic c) a.defers (fr a) σ') ?_ (fun c w' hc => ⟨hn, hc⟩)
  refine (i.sound _ _ h).mono ?_ (fun _ _ h => h)
  rintro v _ ⟨σ', rfl, h'⟩
  exact hK _ _ (h' _ (by rw [size_put, hn]) defers_put fr_put_none)

/-- the same judgement, its first operation guarded: a name for the driver -/
def WLg (P : Program) (ops : Array Oper) (n : Nat) (Q : PostQ) (o : Oper) (l : List Oper) (D : List Deferred) (f : Fr) (σ : St) : Prop := WL P ops n Q (o :: l) D f σ
theorem WL.guard {d : Option Nat} {g : Nat × Bool} {op : Op} {ty : TypeId} {pos : String} {aft : Array Edge} (h : WLg P ops n Q ⟨d, op, ty, pos, aft, some g⟩ l D f σ) : WL P ops n Q (⟨d, op, ty, pos, aft, some g⟩ :: l) D f σ := h
/-- An operation with a guard whose outcome stands in the frame. -/
theorem yielded_at {a : Act} {g t : Nat} {c : Bool} (ht : (ops[g]?).bind (·.dst) = some t) (hl : t < a.tmps.size) (h : fr a t = .bool c) : yielded ops a.tmps g = some c := by
  unfold yielded
  rw [ht]
  simp only [Option.bind_some]
  unfold fr at h
  rw [Array.getElem?_eq_getElem hl]
  simp only [Array.getD, hl, dif_pos] at h
  have : a.tmps[t] = .bool c := h
  rw [this]

theorem WL.hit {d : Option Nat} {g t : Nat} {b : Bool} {op : Op} {ty : TypeId} {pos : String} {aft : Array Edge} (ht : (ops[g]?).bind (·.dst) = some t) (hl : Nat.blt t n = true) [h : At f t (.bool b)]
    (hh : WL P ops n Q (⟨d, op, ty, pos, aft, none⟩ :: l) D f σ) : WL P ops n Q (⟨d, op, ty, pos, aft, some (g, b)⟩ :: l) D f σ := by
  intro a hn hD hf
  have h1 := hh a hn hD hf
  subst hf
  have hy := yielded_at ht (by rw [hn]; exact lt_of_blt hl) h.eq
  simp only [wpList, Region.wanted, hy, if_true, BEq.rfl] at h1 ⊢
  exact h1

theorem WL.missed {d g t : Nat} {b b' : Bool} {op : Op} {ty : TypeId} {pos : String} {aft : Array Edge} (ht : (ops[g]?).bind (·.dst) = some t) (hl : Nat.blt t n = true) (hd : Nat.blt d n = true)
    [h : At f t (.bool b')] (hb : (b' == b) = false) (hh : WL P ops n Q l D (upd f d undef) σ) : WL P ops n Q (⟨some d, op, ty, pos, aft, some (g, b)⟩ :: l) D f σ := by
  rintro a hn rfl rfl
  have hy := yielded_at ht (by rw [hn]; exact lt_of_blt hl) h.eq
  have hne : (some b' == some b) = false := by simpa using hb
  simp only [wpList, Region.wanted, hy, hne]
  exact hh _ (by rw [size_put, hn]) defers_put (fr_put (by rw [hn]; exact lt_of_blt hd))

theorem WL.missed0 {g t : Nat} {b b' : Bool} {op : Op} {ty : TypeId} {pos : String} {aft : Array Edge} (ht : (ops[g]?).bind (·.dst) = some t) (hl : Nat.blt t n = true)
    [h : At f t (.bool b')] (hb : (b' == b) = false) (hh : WL P ops n Q l D f σ) : WL P ops n Q (⟨none, op, ty, pos, aft, some (g, b)⟩ :: l) D f σ := by
  rintro a hn rfl rfl
  have hy := yielded_at ht (by rw [hn]; exact lt_of_blt hl) h.eq
  have hne : (some b' == some b) = false := by simpa using hb
  simp only [wpList, Region.wanted, hy, hne]
  exact hh _ (by rw [size_put, hn]) defers_put fr_put_none

/-- The guard's outcome is not known: both ways, the frame bearing it. -/
theorem WL.part {d : Option Nat} {g t : Nat} {b c : Bool} {op : Op} {ty : TypeId} {pos : String} {aft : Array Edge} (_ht : (ops[g]?).bind (·.dst) = some t) [h : At f t (.bool c)]
    (h1 : c = true → WL P ops n Q (⟨d, op, ty, pos, aft, some (g, b)⟩ :: l) D (upd f t (.bool true)) σ) (h2 : c = false → WL P ops n Q (⟨d, op, ty, pos, aft, some (g, b)⟩ :: l) D (upd f t (.bool false)) σ) :
    WL P ops n Q (⟨d, op, ty, pos, aft, some (g, b)⟩ :: l) D f σ := by
  cases c
  · have := h2 rfl; rwa [upd_self h.eq] at this
  · have := h1 rfl; rwa [upd_self h.eq] at this
end

/-! ### Code -/
def WC (P : Program) (n : Nat) (Q : PostQ) (c : Code) (D : List Deferred) (f : Fr) (σ : St) : Prop :=
  ∀ a : Act, a.tmps.size = n → a.defers = D → fr a = f → Code.wp P c (LQ n Q) a σ.w

def thenQ (next : List Deferred → Fr → St → Prop) (Q : PostQ) : PostQ
  | .normal, D, f, σ => next D f σ
  | e, D, f, σ => Q e D f σ
def blockQ (id : Nat) (Q : PostQ) : PostQ
  | .exit id', D, f, σ => if id' = id then Q .normal D f σ else Q (.exit id') D f σ
  | e, D, f, σ => Q e D f σ

section
variable {P : Program} {n : Nat} {Q : PostQ} {D : List Deferred} {f : Fr} {σ : St}

theorem WC.skip (h : Q .normal D f σ) : WC P n Q .skip D f σ := by
  rintro a hn rfl rfl
  exact wp_skip ⟨hn, σ, rfl, h⟩
theorem WC.ret (h : Q .ret D f σ) : WC P n Q .ret D f σ := by
  rintro a hn rfl rfl
  exact wp_ret ⟨hn, σ, rfl, h⟩
theorem WC.exit {id : Nat} (h : Q (.exit id) D f σ) : WC P n Q (.exit id) D f σ := by
  rintro a hn rfl rfl
  exact wp_exit ⟨hn, σ, rfl, h⟩
theorem WC.region {id : Nat} {l : List Oper} (h : WL P l.toArray n Q l D f σ) : WC P n Q (.region id l.toArray false) D f σ := by
  intro a hn hD hf
  exact wp_region_lit (h a hn hD hf)
theorem WC.seq {x y : Code} (h : WC P n (thenQ (fun D' f' σ' => WC P n Q y D' f' σ') Q) x D f σ) : WC P n Q (.seq x y) D f σ := by
  intro a hn hD hf
  refine wp_seq (wp_mono (h a hn hD hf) ?_)
  rintro e a' _ ⟨hn', σ', rfl, hq⟩
  cases e with
  | normal => exact hq a' hn' rfl rfl
  | _ => exact ⟨hn', σ', rfl, hq⟩
/-- the same, what follows being kept behind a name -/
theorem WC.seqV {x y : Code} (h : ∀ y' : Code, y' = y → WC P n (thenQ (fun D' f' σ' => WC P n Q y' D' f' σ') Q) x D f σ) : WC P n Q (.seq x y) D f σ := WC.seq (h y rfl)
theorem WC.code_ {y y' : Code} (h : y' = y) (k : WC P n Q y D f σ) : WC P n Q y' D f σ := h ▸ k
theorem WC.block {id : Nat} {c : Code} (h : WC P n (blockQ id Q) c D f σ) : WC P n Q (.block id c) D f σ := by
  intro a hn hD hf
  refine wp_block (wp_mono (h a hn hD hf) ?_)
  rintro e a' _ ⟨hn', σ', rfl, hq⟩
  cases e with
  | exit id' =>
    simp only [Exit.inBlock, blockQ] at hq ⊢
    split
    · rename_i e; rw [if_pos e] at hq; exact ⟨hn', σ', rfl, hq⟩
    · rename_i e; rw [if_neg e] at hq; exact ⟨hn', σ', rfl, hq⟩
  | _ => exact ⟨hn', σ', rfl, hq⟩
theorem WC.cond {c : Operand} {x y : Code} {b : Bool} [h : Ev f c (.bool b)] (h1 : b = true → WC P n Q x D f σ) (h2 : b = false → WC P n Q y D f σ) : WC P n Q (.cond c x y) D f σ := by
  rintro a hn hD rfl
  exact wp_cond_split (by rw [eval_fr]; exact h.eq) (fun e => h1 e a hn hD rfl) (fun e => h2 e a hn hD rfl)
theorem WC.condT {c : Operand} {x y : Code} [h : Ev f c (.bool true)] (h1 : WC P n Q x D f σ) : WC P n Q (.cond c x y) D f σ := WC.cond (b := true) (fun _ => h1) (fun e => by cases e)
theorem WC.condF {c : Operand} {x y : Code} [h : Ev f c (.bool false)] (h1 : WC P n Q y D f σ) : WC P n Q (.cond c x y) D f σ := WC.cond (b := false) (fun e => by cases e) (fun _ => h1)
theorem WC.mono {Q' : PostQ} {c : Code} (h : WC P n Q c D f σ) (hq : ∀ e D f σ, Q e D f σ → Q' e D f σ) : WC P n Q' c D f σ := by
  intro a hn hD hf
  refine wp_mono (h a hn hD hf) ?_
  rintro e a' _ ⟨hn', σ', rfl, hq'⟩
  exact ⟨hn', σ', rfl, hq _ _ _ _ hq'⟩

/-- A loop: what holds at each round's head, by an index that each round lowers. -/
def loopQ {ι : Type} (Inv : ι → Fr → St → Prop) (μ : ι → Nat) (i : ι) (D : List Deferred) (Q : PostQ) : PostQ
  | .normal, D', f, σ => D' = D ∧ ∃ i', Inv i' f σ ∧ μ i' < μ i
  | e, D', f, σ => Q e D' f σ
theorem WC.loop {ι : Type} (Inv : ι → Fr → St → Prop) (μ : ι → Nat) {c : Code} (i0 : ι) (h0 : Inv i0 f σ)
    (h : ∀ i f' σ', Inv i f' σ' → WC P n (loopQ Inv μ i D Q) c D f' σ') : WC P n Q (.loop c) D f σ := by
  intro a hn hD0 hf0
  subst hf0
  intro b kk cs
  have key : ∀ k i (a : Act) (σ : St), a.tmps.size = n → a.defers = D → μ i = k → Inv i (fr a) σ →
      ∃ e a' w', LQ n Q e a' w' ∧ Arrives P (lone (b.at a (.code c :: .inLoop c :: kk)) cs σ.w) b kk cs e a' w' := by
    intro k
    induction k using Nat.strongRecOn with
    | _ k ih =>
      intro i a σ hn hD hk hI
      obtain ⟨e, a1, w1, hq, harr⟩ := h i _ _ hI a hn hD rfl b (.inLoop c :: kk) cs
      cases e with
      | normal =>
        obtain ⟨hn1, σ1, rfl, hD1, i1, hI1, hlt⟩ := hq
        obtain ⟨e2, a2, w2, hq2, harr2⟩ := ih (μ i1) (by omega) i1 a1 σ1 hn1 hD1 rfl hI1
        exact ⟨e2, a2, w2, hq2, .of_steps (Steps.trans harr (.one step_inLoop)) harr2⟩
      | exit id => exact ⟨_, a1, w1, hq, .pass (x := .inLoop c) rfl (fun _ _ => .inl (by simp)) harr⟩
      | goto l => exact ⟨_, a1, w1, hq, .pass (x := .inLoop c) rfl (fun _ _ => .inl (by simp)) harr⟩
      | ret => exact ⟨_, a1, w1, hq, .pass (x := .inLoop c) rfl (fun _ _ => .inl (by simp)) harr⟩
      | panic ch => exact ⟨_, a1, w1, hq, .pass (x := .inLoop c) rfl (fun _ _ => .inl (by simp)) harr⟩
      | outgrown => exact ⟨_, a1, w1, hq, .pass (x := .inLoop c) rfl (fun _ _ => .inl (by simp)) harr⟩
  obtain ⟨e, a', w', hq, harr⟩ := key _ i0 a σ hn hD0 rfl h0
  exact ⟨e, a', w', hq, .of_steps (.one step_loop) harr⟩
/-- the same; what the loop leaves alone need not be told: 'W' names the places of the frame that it writes -/
def loopQA {ι : Type} (Inv : ι → Fr → St → Prop) (μ : ι → Nat) (W : Nat) (f0 : Fr) (σ0 : St) (X : Xs) (i : ι) (D : List Deferred) (Q : PostQ) : PostQ
  | .normal, D', f, σ => D' = D ∧ ∃ i', (Agree f W f0 ∧ Nx σ0 σ X ∧ Inv i' f σ) ∧ μ i' < μ i
  | e, D', f, σ => Q e D' f σ
theorem WC.loopX {ι : Type} (W : Nat) (X : Xs) (Inv : ι → Fr → St → Prop) (μ : ι → Nat) {c : Code} (i0 : ι) (hx : NxP σ σ X) (h0 : Inv i0 f σ)
    (h : ∀ i f' σ', Agree f' W f → Nx σ σ' X → Inv i f' σ' → WC P n (loopQA Inv μ W f σ X i D Q) c D f' σ') : WC P n Q (.loop c) D f σ :=
  WC.loop (fun i f' σ' => Agree f' W f ∧ Nx σ σ' X ∧ Inv i f' σ') μ i0 ⟨Agree.rfl, ⟨hx⟩, h0⟩ (fun i f' σ' ⟨a, b, c⟩ => WC.mono (h i f' σ' a b c) (fun e D f σ hq => by cases e <;> exact hq))
/-- a loop that is left in its first round -/
theorem WC.loop1 {c : Code} (h : WC P n (thenQ (fun _ _ _ => False) Q) c D f σ) : WC P n Q (.loop c) D f σ :=
  WC.loop (fun (_ : Unit) f' σ' => f' = f ∧ σ' = σ) (fun _ => 0) () ⟨rfl, rfl⟩ (fun i f' σ' ⟨hf, hs⟩ => by
    subst hf; subst hs
    refine WC.mono h (fun e D f σ hq => ?_)
    cases e <;> first | exact hq | exact hq.elim)
/-- the ways through a part meet again -/
theorem WC.cut {next : List Deferred → Fr → St → Prop} (R : Fr → St → Prop) {c : Code} (h1 : WC P n (thenQ (fun D' f' σ' => D' = D ∧ R f' σ') Q) c D f σ) (h2 : ∀ f σ, R f σ → next D f σ) : WC P n (thenQ next Q) c D f σ :=
  WC.mono h1 (fun e D' f' σ' hq => by
    cases e with
    | normal => obtain ⟨rfl, h⟩ := hq; exact h2 _ _ h
    | _ => exact hq)
theorem WC.use {c : Code} (h : WC P n Q c D f σ) : ∀ a : Act, a.tmps.size = n → a.defers = D → fr a = f → Code.wp P c (LQ n Q) a σ.w := h
theorem WC.of {c : Code} (h : ∀ a : Act, a.tmps.size = n → a.defers = D → fr a = f → Code.wp P c (LQ n Q) a σ.w) : WC P n Q c D f σ := h
theorem WL.use {ops : Array Oper} {l : List Oper} (h : WL P ops n Q l D f σ) : ∀ a : Act, a.tmps.size = n → a.defers = D → fr a = f → wpList P ops (LQ n Q) l a σ.w := h
theorem WL.of {ops : Array Oper} {l : List Oper} (h : ∀ a : Act, a.tmps.size = n → a.defers = D → fr a = f → wpList P ops (LQ n Q) l a σ.w) : WL P ops n Q l D f σ := h
end
attribute [irreducible] WC WL
end Go.Proofs.Ythdhnkgnbdociaa
