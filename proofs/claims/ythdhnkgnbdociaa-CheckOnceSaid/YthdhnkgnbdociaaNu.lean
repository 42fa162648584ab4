/- The engine, part 7: numbers: conversions, halves, quotients, bits. No condition. -/
import Derived.Laws.Entries
import Derived.Laws.BitsLemmas
import Derived.Laws.Bits64
import Derived.Test.YthdhnkgnbdociaaSl
set_option linter.all false
namespace Go.Proofs.Ythdhnkgnbdociaa
open Go Go.RowKit
section
variable {P : Program} {f : Fr} {σ : St} {ty : TypeId}
theorem Fits.u64 {n : Int} (h : 0 ≤ n) (h' : n ≤ 18446744073709551615) : Fits .u64 n := ⟨by rw [IntKind.wrap_u64]; omega⟩
theorem Fits.u32 {n : Int} (h : 0 ≤ n) (h' : n ≤ 4294967295) : Fits .u32 n := ⟨by rw [IntKind.wrap_u32]; omega⟩
theorem Fits.u8 {n : Int} (h : 0 ≤ n) (h' : n ≤ 255) : Fits .u8 n := ⟨by rw [IntKind.wrap_u8]; omega⟩
theorem conv_run {src dst : TypeId} {d : TypeDesc} {k k' : IntKind} {n : Int} (us : U P src d) (ud : U P dst (.int k')) (w : World) : (convert src dst (.int k n)).run P w = .ok (.int k' (k'.wrap n)) w := by
  simp [convert, run_underlying us.h, run_underlying ud.h, Conv.intToInt]
instance (priority := low) StepV.conv {src dst : TypeId} {d : TypeDesc} {k k' : IntKind} {n : Int} {x : Operand} [h : Ev f x (.int k n)] [us : U P src d] [ud : U P dst (.int k')] : StepV P (.convert src dst x) ty f σ (.int k' (k'.wrap n)) :=
  ⟨by simp [execOp, h.eq, conv_run us ud]⟩
instance StepV.conv_fit {src dst : TypeId} {d : TypeDesc} {k k' : IntKind} {n : Int} {x : Operand} [h : Ev f x (.int k n)] [us : U P src d] [ud : U P dst (.int k')] [q : Fits k' n] : StepV P (.convert src dst x) ty f σ (.int k' n) :=
  ⟨by simp [execOp, h.eq, conv_run us ud, q.eq]⟩
class Half (n : Int) (m : outParam Int) : Prop where
  eq : n.fdiv 2 = m
instance Half.add {i j : Nat} : Half ((i : Int) + (j : Int)) (((i + j) / 2 : Nat) : Int) := ⟨by rw [Int.fdiv_eq_ediv_of_nonneg _ (by omega)]; omega⟩
instance StepV.shr1 {k k' : IntKind} {n m : Int} {t u : TypeId} {x : Operand} [h : Ev f x (.int k n)] [q : Half n m] : StepV P (.binOp .shr t x (.const (.int k' 1)) u) ty f σ (.int k m) :=
  ⟨by
    have hq := q.eq
    subst hq
    have hk : min (1 : Nat) k.bits = 1 := by cases k <;> rfl
    have hc : evo f (.const (.int k' 1)) = .int k' 1 := rfl
    simp [execOp, h.eq, hc, binOp, eqGuard, Op.shift, hk]⟩
class PosN (n : Nat) : Prop where
  pos : 0 < n
instance (priority := low) PosN.lit {n : Nat} [h : EqB (Nat.ble n 0) false] : PosN n := ⟨by
  have := h.eq
  exact Nat.lt_of_not_le fun k => by rw [Nat.ble_eq_true_of_le k] at this; cases this⟩
instance StepV.rem_nat {k : IntKind} {a b : Int} {i j : Nat} {t u : TypeId} {x y : Operand} [h : Ev f x (.int k a)] [g : Ev f y (.int k b)] [q : ToNat a i] [q' : ToNat b j] [p : PosN j] : StepV P (.binOp .rem t x y u) ty f σ (.int k ((i % j : Nat) : Int)) :=
  ⟨by
    have e1 := q.eq
    have e2 := q'.eq
    subst e1; subst e2
    have hj : j ≠ 0 := by have := p.pos; omega
    have hm : ((i : Int).tmod (j : Int)) = ((i % j : Nat) : Int) := (Int.ofNat_tmod i j).symm
    simp [execOp, h.eq, g.eq, binOp, eqGuard, Op.intDiv, hj, hm]⟩
end
end Go.Proofs.Ythdhnkgnbdociaa
