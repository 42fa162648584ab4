/- From the given row to the walk: what the arguments are, and what the statement asks. No condition. -/
import Derived.Test.YtlidbnmdhnfolaaRows
import Derived.Test.YtlidbnmdhnfolaaEl
import Derived.WalkKit
import Derived.ProofKit
import Derived.OpenShut
import Derived.ShutString
import Derived.ChangeOld
import Derived.Below
set_option linter.all false
set_option maxRecDepth 100000
namespace Go.Proofs.Ytlidbnmdhnfolaa
open Go Go.RowKit Go.ChangeShapes Go.WideShapes Go.ChangeAt

theorem own_ : ownKnob Try.prog.godebug = none := by kernel_rfl
theorem laidOut_ : laidOutB Try.prog = true := by kernel_rfl

/-- the state at the call's beginning: nothing may turn -/
def st0 (W : World) : St := ⟨W, fun _ => False, nofun⟩
theorem law_of_rule {P : Program} {g : FuncId} {args : List Value} {W : World} (h : CallRule P g args (st0 W) (fun K _ => ∀ σ', Nx (st0 W) σ' .no → K (.bool true) σ')) :
    Calls P g args.toArray W fun e w' => e = .returned (.bool true) ∧ Below W.heap.size W w' := by
  refine (h.sound (fun v σ' => v = .bool true ∧ Below W.heap.size W σ'.w) (fun _ _ => False) (fun σ' n => ⟨rfl, n.p.os, n.p.tape, n.p.output, n.p.size, fun b hb => (n.p.own b hb id).1⟩)).mono ?_
  intro e w' he
  cases e with
  | returned v => obtain ⟨σ', rfl, rfl, hb⟩ := he; exact ⟨rfl, hb⟩
  | panicked c => obtain ⟨σ', rfl, hb⟩ := he; exact hb.elim
  | outgrown => exact he.elim

section
variable {H : Type} {enc : TypeId × Value → H} {w : World} {base fuel : Nat} {spare : Nat → Bool} {held : Bool}
theorem key_of_trod {cs : List Value} {x : DataW H × List MemPlace} (h : DataW.trod enc Try.prog w base spare held fuel 23 cs = some x) : ∃ k : Key, cs = (kc k).toList := by
  obtain ⟨xs, m, _, _, hl, hn, hel⟩ := DataW.trod_array (inferInstance : U Try.prog 23 _).h h
  have c5 : Try.prog.cellsOf 5 = 1 := by kernel_rfl
  have c24 : Try.prog.cellsOf 23 = 32 := by kernel_rfl
  rw [c24] at hl
  have key : ∀ i, i < 32 → ∃ b : UInt8, cs[i]? = some (u8v b) := by
    intro i hi
    have hE := hel i hi
    rw [c5, Nat.mul_one, List.getElem?_eq_getElem (by omega)] at hE
    obtain ⟨z, e1, e2, wz⟩ := DataW.trod_int (inferInstance : U Try.prog 5 _).h hE
    have hz := bounds_u8 wz
    have h0 : ((cs.drop i).take 1)[0]? = some (.int .u8 z) := by rw [e1]; rfl
    refine ⟨UInt8.ofNat z.toNat, ?_⟩
    have h1 : cs[i]? = some (.int .u8 z) := by simpa using h0
    rw [h1]
    have hm : (UInt8.ofNat z.toNat).toNat = z.toNat := by simp; omega
    unfold u8v
    rw [hm, Int.toNat_of_nonneg hz.1]
  refine ⟨Vector.ofFn fun i => Classical.choose (key i.1 i.2), ?_⟩
  apply List.ext_getElem?
  intro i
  by_cases hi : i < 32
  · rw [Classical.choose_spec (key i hi), Array.getElem?_toList (xs := kc _), kc_get _ i hi]
    simp
  · rw [List.getElem?_eq_none (by omega), List.getElem?_eq_none (by simp [kc_size]; omega)]
theorem open_key {r : Reach} {v : Value} {d : DataW H} {p : List MemPlace} (hv : Value.okWide Try.prog w r base 23 v) {base' : Nat} (h : DataW.Trod enc Try.prog w base' spare held 23 v d p) : ∃ k : Key, v = .agg (kc k) := by
  obtain ⟨cs, rfl, hsz, _⟩ : ∃ cs, v = .agg cs ∧ cs.size = Try.prog.cellsOf 23 ∧ Row.okWide Try.prog w r base 23 cs := by
    simpa [Value.okWide, (inferInstance : U Try.prog 23 _).h] using hv
  obtain ⟨fuel, hf⟩ := h
  obtain ⟨k, hk⟩ := key_of_trod hf
  exact ⟨k, by congr 1; exact Array.ext' hk⟩
theorem open_u8 {r : Reach} {v : Value} {d : DataW H} {p : List MemPlace} (hv : Value.okWide Try.prog w r base 5 v) {base' : Nat} (h : DataW.Trod enc Try.prog w base' spare held 5 v d p) : ∃ x : UInt8, v = .int .u8 (x.toNat : Int) := by
  obtain ⟨z, rfl, rfl, rfl, wz⟩ := open_int (inferInstance : U Try.prog 5 _).h hv h
  have hz := bounds_u8 wz
  refine ⟨UInt8.ofNat z.toNat, ?_⟩
  have hm : (UInt8.ofNat z.toNat).toNat = z.toNat := by simp; omega
  rw [hm, Int.toNat_of_nonneg hz.1]
end
end Go.Proofs.Ytlidbnmdhnfolaa
