/- The engine, the driver: each judgement's next step, found by instances. No condition. -/
import Derived.Test.YthdhnkgnbdociaaDrw
set_option linter.all false
namespace Go.Proofs.Ythdhnkgnbdociaa
open Go Go.RowKit

/-- to show g it is enough to show k -/
class Nxt (g : Prop) (k : outParam Prop) : Prop where
  run : k → g
theorem go {g k : Prop} [h : Nxt g k] (x : k) : g := h.run x
/-- the same, at a region -/
class NxtR (g : Prop) (k : outParam Prop) : Prop where
  run : k → g
theorem goO {a b : Prop} (h : a) (k : b) : a ∧ b := ⟨h, k⟩
theorem goR {g k : Prop} [h : NxtR g k] (x : k) : g := h.run x
class NxtF (g : Prop) (k l : outParam Prop) : Prop where
  run : k → l → g
theorem goF {g k l : Prop} [h : NxtF g k l] (x : k) (y : l) : g := h.run x y
class IsC (y : Code) (x : outParam Code) : Prop where
  eq : y = x
class Sel (b : Bool) (x y : Prop) (k : outParam Prop) : Prop where
  t : b = true → k → x
  f : b = false → k → y
instance Sel.t_ {x y : Prop} : Sel true x y x := ⟨fun _ h => h, nofun⟩
instance Sel.f_ {x y : Prop} : Sel false x y y := ⟨nofun, fun _ h => h⟩

section
variable {next : List Deferred → Fr → St → Prop} {Q : PostQ} {D D' : List Deferred} {f f0 : Fr} {σ σ0 : St} {id id' : Nat} {c : List PanicEntry}
instance : Nxt (thenQ next Q .normal D f σ) (next D f σ) := ⟨fun h => h⟩
instance : Nxt (thenQ next Q .ret D f σ) (Q .ret D f σ) := ⟨fun h => h⟩
instance : Nxt (thenQ next Q (.exit id) D f σ) (Q (.exit id) D f σ) := ⟨fun h => h⟩
instance : Nxt (thenQ next Q (.panic c) D f σ) (Q (.panic c) D f σ) := ⟨fun h => h⟩
instance : Nxt (blockQ id Q .normal D f σ) (Q .normal D f σ) := ⟨fun h => h⟩
instance : Nxt (blockQ id Q .ret D f σ) (Q .ret D f σ) := ⟨fun h => h⟩
instance : Nxt (blockQ id Q (.panic c) D f σ) (Q (.panic c) D f σ) := ⟨fun h => h⟩
instance : Nxt (blockQ id Q (.exit id) D f σ) (Q .normal D f σ) := ⟨block_hit⟩
instance (priority := low) [NeN id' id] : Nxt (blockQ id Q (.exit id') D f σ) (Q (.exit id') D f σ) := ⟨block_miss⟩
variable {ι : Type} {Inv : ι → Fr → St → Prop} {μ : ι → Nat} {i : ι} {W : Nat} {X : Xs}
instance : Nxt (loopQ Inv μ i D' Q .ret D f σ) (Q .ret D f σ) := ⟨fun h => h⟩
instance : Nxt (loopQ Inv μ i D' Q (.exit id) D f σ) (Q (.exit id) D f σ) := ⟨fun h => h⟩
instance : Nxt (loopQ Inv μ i D' Q (.panic c) D f σ) (Q (.panic c) D f σ) := ⟨fun h => h⟩
instance : Nxt (loopQA Inv μ W f0 σ0 X i D' Q .ret D f σ) (Q .ret D f σ) := ⟨fun h => h⟩
instance : Nxt (loopQA Inv μ W f0 σ0 X i D' Q (.exit id) D f σ) (Q (.exit id) D f σ) := ⟨fun h => h⟩
instance : Nxt (loopQA Inv μ W f0 σ0 X i D' Q (.panic c) D f σ) (Q (.panic c) D f σ) := ⟨fun h => h⟩
end

section
variable {P : Program} {n : Nat} {Q : PostQ} {D : List Deferred} {f : Fr} {σ : St}
instance {id : Nat} {l : List Oper} : NxtR (WC P n Q (.region id l.toArray false) D f σ) (WL P l.toArray n Q l D f σ) := ⟨WC.region⟩
theorem goS {x y : Code} (h : ∀ y' : Code, IsC y' y → WC P n (thenQ (fun D' f' σ' => WC P n Q y' D' f' σ') Q) x D f σ) : WC P n Q (.seq x y) D f σ := WC.seqV fun y' e => h y' ⟨e⟩
instance {id : Nat} {c : Code} : Nxt (WC P n Q (.block id c) D f σ) (WC P n (blockQ id Q) c D f σ) := ⟨WC.block⟩
instance : Nxt (WC P n Q .ret D f σ) (Q .ret D f σ) := ⟨WC.ret⟩
instance {id : Nat} : Nxt (WC P n Q (.exit id) D f σ) (Q (.exit id) D f σ) := ⟨WC.exit⟩
instance : Nxt (WC P n Q .skip D f σ) (Q .normal D f σ) := ⟨WC.skip⟩
instance {c : Operand} {x y : Code} {b b' : Bool} {k : Prop} [h : Ev f c (.bool b)] [q : BV b b'] [s : Sel b' (WC P n Q x D f σ) (WC P n Q y D f σ) k] : Nxt (WC P n Q (.cond c x y) D f σ) k := ⟨fun hk => WC.cond (b := b) (fun e => s.t (q.eq.symm.trans e) hk) (fun e => s.f (q.eq.symm.trans e) hk)⟩
instance (priority := low) {y y' : Code} [h : IsC y' y] : Nxt (WC P n Q y' D f σ) (WC P n Q y D f σ) := ⟨WC.code_ h.eq⟩

variable {ops : Array Oper} {l : List Oper}
instance : Nxt (WL P ops n Q [] D f σ) (Q .normal D f σ) := ⟨WL.nil⟩
instance {d : Nat} {op : Op} {ty : TypeId} {pos : String} {aft : Array Edge} {S : Tr} [i : Step P op ty f σ S] [hd : EqB (Nat.ble n d) false] :
    Nxt (WL P ops n Q (⟨some d, op, ty, pos, aft, none⟩ :: l) D f σ) (S (fun v σ' => WL P ops n Q l D (upd f d v) σ') (fun c σ' => Q (.panic c) D f σ')) := ⟨WL.stepR⟩
instance {op : Op} {ty : TypeId} {pos : String} {aft : Array Edge} {S : Tr} [i : Step P op ty f σ S] :
    Nxt (WL P ops n Q (⟨none, op, ty, pos, aft, none⟩ :: l) D f σ) (S (fun _ σ' => WL P ops n Q l D f σ') (fun c σ' => Q (.panic c) D f σ')) := ⟨WL.step0⟩

/-- an operation of a region -/
class Nth (l : List Oper) (i : Nat) (o : outParam Oper) : Prop where
  h : l[i]? = some o
instance Nth.zero {o : Oper} {l : List Oper} : Nth (o :: l) 0 o := ⟨rfl⟩
instance Nth.succ {o o' : Oper} {l : List Oper} {i : Nat} [h : Nth l i o] : Nth (o' :: l) (i + 1) o := ⟨by simpa using h.h⟩
/-- where the answer of an operation goes -/
class DstOf (ops : Array Oper) (i : Nat) (t : outParam Nat) : Prop where
  h : (ops[i]?).bind (·.dst) = some t
instance DstOf.of {l : List Oper} {i t : Nat} {op : Op} {ty : TypeId} {pos : String} {aft : Array Edge} {g : Option (Nat × Bool)} [h : Nth l i ⟨some t, op, ty, pos, aft, g⟩] : DstOf l.toArray i t := ⟨by simp [h.h]⟩
class EqBo (x y : Bool) (b : outParam Bool) : Prop where
  h : (x == y) = b
instance : EqBo true true true := ⟨rfl⟩
instance : EqBo true false false := ⟨rfl⟩
instance : EqBo false true false := ⟨rfl⟩
instance : EqBo false false true := ⟨rfl⟩
theorem bo_t {x y : Bool} (h : EqBo x y true) : x = y := by have := h.h; simpa using this
theorem blt_of {n d : Nat} (h : EqB (Nat.ble n d) false) : Nat.blt d n = true := by
  refine Nat.ble_eq_true_of_le (?_ : d + 1 ≤ n)
  have := h.eq
  exact Nat.lt_of_not_le fun k => by rw [Nat.ble_eq_true_of_le k] at this; cases this
/-- a guard's answer is known -/
def Wg (P : Program) (ops : Array Oper) (n : Nat) (Q : PostQ) (r : Bool) (o : Oper) (l : List Oper) (D : List Deferred) (f : Fr) (σ : St) : Prop :=
  ∀ (g : Nat × Bool) (t : Nat) (b' : Bool), o.guard = some g → (ops[g.1]?).bind (·.dst) = some t → t < n → At f t (.bool b') → (b' == g.2) = r → WL P ops n Q (o :: l) D f σ
instance {d : Option Nat} {g t : Nat} {b b' b2 r : Bool} {op : Op} {ty : TypeId} {pos : String} {aft : Array Edge} [ht : DstOf ops g t] [hl : EqB (Nat.ble n t) false] [h : At f t (.bool b')] [q : BV b' b2] [e : EqBo b2 b r] :
    Nxt (WL P ops n Q (⟨d, op, ty, pos, aft, some (g, b)⟩ :: l) D f σ) (Wg P ops n Q r ⟨d, op, ty, pos, aft, some (g, b)⟩ l D f σ) := ⟨fun k => k (g, b) t b' rfl ht.h (lt_of_blt (blt_of hl)) h (q.eq ▸ e.h)⟩
theorem blt_lt {a b : Nat} (h : a < b) : Nat.blt a b = true := Nat.ble_eq_true_of_le h
instance {d : Option Nat} {g : Nat × Bool} {op : Op} {ty : TypeId} {pos : String} {aft : Array Edge} :
    Nxt (Wg P ops n Q true ⟨d, op, ty, pos, aft, some g⟩ l D f σ) (WL P ops n Q (⟨d, op, ty, pos, aft, none⟩ :: l) D f σ) := ⟨fun k g' t b' e1 ht hl h e => by
  injection e1 with e1; subst e1
  obtain ⟨g, b⟩ := g
  have : b' = b := by simpa using e
  subst this
  exact WL.hit ht (blt_lt hl) k⟩
instance {d : Nat} {g : Nat × Bool} {op : Op} {ty : TypeId} {pos : String} {aft : Array Edge} [hd : EqB (Nat.ble n d) false] :
    Nxt (Wg P ops n Q false ⟨some d, op, ty, pos, aft, some g⟩ l D f σ) (WL P ops n Q l D (upd f d undef) σ) := ⟨fun k g' t b' e1 ht hl h e => by
  injection e1 with e1; subst e1
  obtain ⟨g, b⟩ := g
  exact WL.missed ht (blt_lt hl) (blt_of hd) e k⟩
instance {g : Nat × Bool} {op : Op} {ty : TypeId} {pos : String} {aft : Array Edge} :
    Nxt (Wg P ops n Q false ⟨none, op, ty, pos, aft, some g⟩ l D f σ) (WL P ops n Q l D f σ) := ⟨fun k g' t b' e1 ht hl h e => by
  injection e1 with e1; subst e1
  obtain ⟨g, b⟩ := g
  exact WL.missed0 ht (blt_lt hl) e k⟩
end

/-! regions that draw -/
section
variable {P : Program} {l : List Oper} {n : Nat} {Q : PostQ} {mu : List Nat} {p : PT} {D : List Deferred} {f : Fr} {σ : St} {i : Nat}
inductive Kd where
  | p
  | l
  | h
def Kd.pt : Kd → Nat → PT → PT
  | .p, i, r => .p i r
  | .l, i, r => .l i r
  | .h, i, r => .h i r
/-- the operation of the step is told; r: its guard holds, or it does not -/
def Wo (P : Program) (ops : Array Oper) (n : Nat) (Q : PostQ) (mu : List Nat) (r : Bool) (k : Kd) (i : Nat) (o : Oper) (p : PT) (D : List Deferred) (f : Fr) (σ : St) : Prop :=
  ops[i]? = some o → (∀ g, o.guard = some g → ∃ (t : Nat) (b' : Bool), (ops[g.1]?).bind (·.dst) = some t ∧ t < n ∧ At f t (.bool b') ∧ (b' == g.2) = r) → WX P ops n Q mu (k.pt i p) D f σ
class GdOf (ops : Array Oper) (n : Nat) (f : Fr) (g : Option (Nat × Bool)) (r : outParam Bool) : Prop where
  h : ∀ g', g = some g' → ∃ (t : Nat) (b' : Bool), (ops[g'.1]?).bind (·.dst) = some t ∧ t < n ∧ At f t (.bool b') ∧ (b' == g'.2) = r
instance {ops : Array Oper} : GdOf ops n f none true := ⟨nofun⟩
instance {ops : Array Oper} {g t : Nat} {b b' b2 r : Bool} [ht : DstOf ops g t] [hl : EqB (Nat.ble n t) false] [h : At f t (.bool b')] [q : BV b' b2] [e : EqBo b2 b r] : GdOf ops n f (some (g, b)) r :=
  ⟨fun g' e1 => by injection e1 with e1; subst e1; exact ⟨t, b', ht.h, lt_of_blt (blt_of hl), h, q.eq ▸ e.h⟩⟩
instance {d : Option Nat} {op : Op} {ty : TypeId} {pos : String} {aft : Array Edge} {g : Option (Nat × Bool)} {r : Bool} [h : Nth l i ⟨d, op, ty, pos, aft, g⟩] [k : GdOf l.toArray n f g r] : Nxt (WX P l.toArray n Q mu (.p i p) D f σ) (Wo P l.toArray n Q mu r .p i ⟨d, op, ty, pos, aft, g⟩ p D f σ) := ⟨fun x => x (by simp [h.h]) k.h⟩
instance {d : Option Nat} {op : Op} {ty : TypeId} {pos : String} {aft : Array Edge} {g : Option (Nat × Bool)} {r : Bool} [h : Nth l i ⟨d, op, ty, pos, aft, g⟩] [k : GdOf l.toArray n f g r] : Nxt (WX P l.toArray n Q mu (.l i p) D f σ) (Wo P l.toArray n Q mu r .l i ⟨d, op, ty, pos, aft, g⟩ p D f σ) := ⟨fun x => x (by simp [h.h]) k.h⟩
instance {d : Option Nat} {op : Op} {ty : TypeId} {pos : String} {aft : Array Edge} {g : Option (Nat × Bool)} {r : Bool} [h : Nth l i ⟨d, op, ty, pos, aft, g⟩] [k : GdOf l.toArray n f g r] : Nxt (WX P l.toArray n Q mu (.h i p) D f σ) (Wo P l.toArray n Q mu r .h i ⟨d, op, ty, pos, aft, g⟩ p D f σ) := ⟨fun x => x (by simp [h.h]) k.h⟩
instance : Nxt (WX P l.toArray n Q mu .nil D f σ) (Q .normal D f σ) := ⟨WX.nil⟩

/-- a value at whatever state, at all that come of this one -/
class AllV (P : Program) (op : Op) (ty : TypeId) (f : Fr) (v : outParam Value) : Prop where
  h : ∀ σ' : St, StepV P op ty f σ' v
instance {op : Op} {ty : TypeId} {v : Value} [h : ∀ σ' : St, StepV P op ty f σ' v] : AllV P op ty f v := ⟨h⟩
variable {ops : Array Oper}
instance {d : Nat} {op : Op} {ty : TypeId} {pos : String} {aft : Array Edge} {g : Option (Nat × Bool)} {v : Value} [pf : PFree Q] [hd : EqB (Nat.ble n d) false] [k : AllV P op ty f v] :
    Nxt (Wo P ops n Q mu true .p i ⟨some d, op, ty, pos, aft, g⟩ p D f σ) (WX P ops n Q mu p D (upd f d v) σ) := ⟨fun x ho hg => by
  cases g with
  | none => exact WX.pure ho (blt_of hd) k.h x
  | some g =>
    obtain ⟨t, b', ht, hl, ha, he⟩ := hg g rfl
    obtain ⟨g, b⟩ := g
    have : b' = b := by simpa using he
    subst this
    exact WX.pure_hit ho ht (blt_lt hl) (blt_of hd) k.h x⟩
theorem goL {d : Nat} {op : Op} {ty : TypeId} {pos : String} {aft : Array Edge} {g : Option (Nat × Bool)} {v : Value} [pf : PFree Q] [hd : EqB (Nat.ble n d) false] (k : ∀ σ' : St, Nx σ σ' .no → StepV P op ty f σ' v)
    (x : WX P ops n Q mu p D (upd f d v) σ) : Wo P ops n Q mu true .l i ⟨some d, op, ty, pos, aft, g⟩ p D f σ := by
  intro ho hg
  cases g with
  | none => exact WX.light ho (blt_of hd) k x
  | some g =>
    obtain ⟨t, b', ht, hl, ha, he⟩ := hg g rfl
    obtain ⟨g, b⟩ := g
    have : b' = b := by simpa using he
    subst this
    exact WX.light_hit ho ht (blt_lt hl) (blt_of hd) k x
instance {d : Nat} {op : Op} {ty : TypeId} {pos : String} {aft : Array Edge} {g : Option (Nat × Bool)} {S : Tr} [k : Step P op ty f σ S] [hd : EqB (Nat.ble n d) false] :
    Nxt (Wo P ops n Q mu true .h i ⟨some d, op, ty, pos, aft, g⟩ p D f σ) (S (fun v σ' => (i ∉ mu → Ext σ σ') ∧ WX P ops n Q mu p D (upd f d v) σ') (fun c σ' => Q (.panic c) D f σ')) := ⟨fun x ho hg => by
  cases g with
  | none => exact WX.heavy ho (blt_of hd) x
  | some g =>
    obtain ⟨t, b', ht, hl, ha, he⟩ := hg g rfl
    obtain ⟨g, b⟩ := g
    have : b' = b := by simpa using he
    subst this
    exact WX.heavy_hit ho ht (blt_lt hl) (blt_of hd) x⟩
theorem WX.heavy0_hit {i g t : Nat} {b : Bool} {op : Op} {ty : TypeId} {pos : String} {aft : Array Edge} (ho : ops[i]? = some ⟨none, op, ty, pos, aft, some (g, b)⟩) (ht : (ops[g]?).bind (·.dst) = some t) (hl : Nat.blt t n = true) [hg : At f t (.bool b)]
    {S : Tr} [k : Step P op ty f σ S]
    (h : S (fun v σ' => (i ∉ mu → Ext σ σ') ∧ WX P ops n Q mu p D f σ') (fun c σ' => Q (.panic c) D f σ')) : WX P ops n Q mu (.h i p) D f σ := by
  unfold WX
  rintro a hn rfl rfl
  have hy := yielded_at ht (by rw [hn]; exact lt_of_blt hl) hg.eq
  unfold wpPerm wpOp
  simp only [ho, Region.wanted, hy, BEq.rfl, if_true]
  refine .inl (Oper.wp_of_OpW (E := fun c w' => ∃ σ' : St, σ'.w = w' ∧ Q (.panic c) a.defers (fr a) σ') ?_ (fun c w' hc => ⟨hn, hc⟩))
  refine (k.sound _ _ h).mono ?_ (fun _ _ h => h)
  rintro v _ ⟨σ', rfl, he, h'⟩
  exact ⟨fun hm => (he hm).l, h'.use _ (by rw [size_put, hn]) defers_put fr_put_none⟩
instance {op : Op} {ty : TypeId} {pos : String} {aft : Array Edge} {g : Option (Nat × Bool)} {S : Tr} [k : Step P op ty f σ S] :
    Nxt (Wo P ops n Q mu true .h i ⟨none, op, ty, pos, aft, g⟩ p D f σ) (S (fun v σ' => (i ∉ mu → Ext σ σ') ∧ WX P ops n Q mu p D f σ') (fun c σ' => Q (.panic c) D f σ')) := ⟨fun x ho hg => by
  cases g with
  | none => exact WX.heavy0 ho x
  | some g =>
    obtain ⟨t, b', ht, hl, ha, he⟩ := hg g rfl
    obtain ⟨g, b⟩ := g
    have : b' = b := by simpa using he
    subst this
    exact WX.heavy0_hit ho ht (blt_lt hl) x⟩
theorem WX.heavy0_miss {i g t : Nat} {b b' : Bool} {op : Op} {ty : TypeId} {pos : String} {aft : Array Edge} (ho : ops[i]? = some ⟨none, op, ty, pos, aft, some (g, b)⟩) (ht : (ops[g]?).bind (·.dst) = some t) (hl : Nat.blt t n = true) [hg : At f t (.bool b')]
    (hb : (b' == b) = false) (h : WX P ops n Q mu p D f σ) : WX P ops n Q mu (.h i p) D f σ := by
  unfold WX
  rintro a hn rfl rfl
  have hy := yielded_at ht (by rw [hn]; exact lt_of_blt hl) hg.eq
  have hne : (some b' == some b) = false := by simpa using hb
  unfold wpPerm wpOp
  simp only [ho, Region.wanted, hy, hne, Bool.false_eq_true, if_false]
  exact ⟨fun _ => Later.refl _, h.use _ (by rw [size_put, hn]) defers_put fr_put_none⟩
instance {op : Op} {ty : TypeId} {pos : String} {aft : Array Edge} {g : Nat × Bool} :
    Nxt (Wo P ops n Q mu false .h i ⟨none, op, ty, pos, aft, some g⟩ p D f σ) (WX P ops n Q mu p D f σ) := ⟨fun x ho hg => by
  obtain ⟨t, b', ht, hl, ha, he⟩ := hg g rfl
  obtain ⟨g, b⟩ := g
  exact WX.heavy0_miss ho ht (blt_lt hl) he x⟩
instance {d : Nat} {op : Op} {ty : TypeId} {pos : String} {aft : Array Edge} {g : Nat × Bool} {k : Kd} [pf : PFree Q] [hd : EqB (Nat.ble n d) false] :
    Nxt (Wo P ops n Q mu false k i ⟨some d, op, ty, pos, aft, some g⟩ p D f σ) (WX P ops n Q mu p D (upd f d undef) σ) := ⟨fun x ho hg => by
  obtain ⟨t, b', ht, hl, ha, he⟩ := hg g rfl
  obtain ⟨g, b⟩ := g
  cases k with
  | p => exact WX.pure_miss ho ht (blt_lt hl) he (blt_of hd) x
  | l => exact WX.light_miss ho ht (blt_lt hl) he (blt_of hd) x
  | h => exact WX.heavy_miss ho ht (blt_lt hl) he (blt_of hd) x⟩
class InL (i : Nat) (mu : List Nat) : Prop where
  h : i ∈ mu
instance InL.hd {i : Nat} {mu : List Nat} : InL i (i :: mu) := ⟨by simp⟩
instance (priority := low) InL.tl {i j : Nat} {mu : List Nat} [h : InL i mu] : InL i (j :: mu) := ⟨List.mem_cons_of_mem _ h.h⟩
instance {σ' : St} {A : Prop} [h : InL i mu] : Nxt ((i ∉ mu → Ext σ σ') ∧ A) A := ⟨fun a => ⟨fun n => (n h.h).elim, a⟩⟩
instance (priority := low) {σ' : St} {A : Prop} [h : Ext σ σ'] : Nxt ((i ∉ mu → Ext σ σ') ∧ A) A := ⟨fun a => ⟨fun _ => h, a⟩⟩
instance {j : Nat} {s : PT} : NxtF (WX P ops n Q mu (.f i p j s) D f σ) (WX P ops n Q mu (.h i p) D f σ) (WX P ops n Q mu (.h j s) D f σ) := ⟨WX.fork⟩
/-! a guard that stands for nothing: its operation did not run -/
class GUn (ops : Array Oper) (n : Nat) (f : Fr) (g : Nat × Bool) : Prop where
  h : ∀ a : Act, a.tmps.size = n → fr a = f → (yielded ops a.tmps g.1 == some g.2) = false
instance {ops : Array Oper} {g t : Nat} {b : Bool} [ht : DstOf ops g t] [h : At f t undef] : GUn ops n f (g, b) := ⟨fun a hn hf => by
  subst hf
  have h1 := h.eq
  unfold yielded
  rw [ht.h]
  simp only [Option.bind_some]
  unfold fr at h1
  by_cases hl : t < a.tmps.size
  · rw [Array.getElem?_eq_getElem hl]
    simp only [Array.getD, hl, dif_pos] at h1
    have h2 : a.tmps[t] = undef := h1
    rw [h2]; rfl
  · rw [Array.getElem?_eq_none (by omega)]; rfl⟩
instance {d : Nat} {g : Nat × Bool} {op : Op} {ty : TypeId} {pos : String} {aft : Array Edge} {l : List Oper} [k : GUn ops n f g] [hd : EqB (Nat.ble n d) false] :
    Nxt (WL P ops n Q (⟨some d, op, ty, pos, aft, some g⟩ :: l) D f σ) (WL P ops n Q l D (upd f d undef) σ) := ⟨fun hh => by
  unfold WL at *
  rintro a hn rfl rfl
  have hy := k.h a hn rfl
  obtain ⟨g, b⟩ := g
  simp only at hy
  simp only [wpList, Region.wanted, hy]
  exact hh _ (by rw [size_put, hn]) defers_put (fr_put (by rw [hn]; exact lt_of_blt (blt_of hd)))⟩
instance {g : Nat × Bool} {op : Op} {ty : TypeId} {pos : String} {aft : Array Edge} {l : List Oper} [k : GUn ops n f g] :
    Nxt (WL P ops n Q (⟨none, op, ty, pos, aft, some g⟩ :: l) D f σ) (WL P ops n Q l D f σ) := ⟨fun hh => by
  unfold WL at *
  rintro a hn rfl rfl
  have hy := k.h a hn rfl
  obtain ⟨g, b⟩ := g
  simp only at hy
  simp only [wpList, Region.wanted, hy]
  exact hh _ (by rw [size_put, hn]) defers_put fr_put_none⟩
theorem WX.un {k : Kd} {d : Nat} {g : Nat × Bool} {op : Op} {ty : TypeId} {pos : String} {aft : Array Edge} (ho : ops[i]? = some ⟨some d, op, ty, pos, aft, some g⟩) (gu : GUn ops n f g) [pf : PFree Q] (hd : Nat.blt d n = true) (h : WX P ops n Q mu p D (upd f d undef) σ) : WX P ops n Q mu (k.pt i p) D f σ := by
  unfold WX at *
  rintro a hn rfl rfl
  have hy := gu.h a hn rfl
  obtain ⟨g, b⟩ := g
  have hx := h _ (by rw [size_put, hn]) defers_put (fr_put (v := undef) (by rw [hn]; exact lt_of_blt hd))
  cases k with
  | p =>
    refine ⟨_, undef, ho, .inr ⟨by simp only [Region.wanted]; exact hy, rfl⟩, ?_, hx⟩
    rintro c a' w' ⟨hs, σ', rfl, hq⟩
    exact ⟨by rwa [size_put] at hs, σ', rfl, pf.h _ _ _ _ _ (by rwa [defers_put] at hq)⟩
  | l =>
    refine ⟨_, undef, ho, .inr ⟨by simp only [Region.wanted]; exact hy, rfl⟩, ?_, hx⟩
    rintro c a' w' ⟨hs, σ', rfl, hq⟩
    exact ⟨by rwa [size_put] at hs, σ', rfl, pf.h _ _ _ _ _ (by rwa [defers_put] at hq)⟩
  | h =>
    show wpPerm P ops _ mu (.h i p) a σ.w
    unfold wpPerm wpOp
    simp only at hy
    simp only [ho, Region.wanted, hy, Bool.false_eq_true, if_false]
    exact ⟨fun _ => Later.refl _, hx⟩
theorem WX.un0 {g : Nat × Bool} {op : Op} {ty : TypeId} {pos : String} {aft : Array Edge} (ho : ops[i]? = some ⟨none, op, ty, pos, aft, some g⟩) (gu : GUn ops n f g) (h : WX P ops n Q mu p D f σ) : WX P ops n Q mu (.h i p) D f σ := by
  unfold WX at *
  rintro a hn rfl rfl
  have hy := gu.h a hn rfl
  obtain ⟨g, b⟩ := g
  have hx := h _ (by rw [size_put, hn]) defers_put (fr_put_none (v := undef))
  unfold wpPerm wpOp
  simp only at hy
  simp only [ho, Region.wanted, hy, Bool.false_eq_true, if_false]
  exact ⟨fun _ => Later.refl _, hx⟩
instance {d : Nat} {op : Op} {ty : TypeId} {pos : String} {aft : Array Edge} {g : Nat × Bool} [h : Nth l i ⟨some d, op, ty, pos, aft, some g⟩] [k : GUn l.toArray n f g] [pf : PFree Q] [hd : EqB (Nat.ble n d) false] : Nxt (WX P l.toArray n Q mu (.p i p) D f σ) (WX P l.toArray n Q mu p D (upd f d undef) σ) := ⟨fun x => WX.un (op := op) (ty := ty) (pos := pos) (aft := aft) (k := .p) (by simp [h.h]) k (blt_of hd) x⟩
instance {d : Nat} {op : Op} {ty : TypeId} {pos : String} {aft : Array Edge} {g : Nat × Bool} [h : Nth l i ⟨some d, op, ty, pos, aft, some g⟩] [k : GUn l.toArray n f g] [pf : PFree Q] [hd : EqB (Nat.ble n d) false] : Nxt (WX P l.toArray n Q mu (.l i p) D f σ) (WX P l.toArray n Q mu p D (upd f d undef) σ) := ⟨fun x => WX.un (op := op) (ty := ty) (pos := pos) (aft := aft) (k := .l) (by simp [h.h]) k (blt_of hd) x⟩
instance {d : Nat} {op : Op} {ty : TypeId} {pos : String} {aft : Array Edge} {g : Nat × Bool} [h : Nth l i ⟨some d, op, ty, pos, aft, some g⟩] [k : GUn l.toArray n f g] [pf : PFree Q] [hd : EqB (Nat.ble n d) false] : Nxt (WX P l.toArray n Q mu (.h i p) D f σ) (WX P l.toArray n Q mu p D (upd f d undef) σ) := ⟨fun x => WX.un (op := op) (ty := ty) (pos := pos) (aft := aft) (k := .h) (by simp [h.h]) k (blt_of hd) x⟩
instance {op : Op} {ty : TypeId} {pos : String} {aft : Array Edge} {g : Nat × Bool} [h : Nth l i ⟨none, op, ty, pos, aft, some g⟩] [k : GUn l.toArray n f g] : Nxt (WX P l.toArray n Q mu (.h i p) D f σ) (WX P l.toArray n Q mu p D f σ) := ⟨fun x => WX.un0 (op := op) (ty := ty) (pos := pos) (aft := aft) (by simp [h.h]) k x⟩
end
attribute [irreducible] Wg Wo
end Go.Proofs.Ythdhnkgnbdociaa
