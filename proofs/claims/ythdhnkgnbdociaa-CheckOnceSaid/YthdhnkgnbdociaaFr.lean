/- From the given row to the walk: what the arguments are, and what the statement asks. No condition. -/
import Derived.Test.YthdhnkgnbdociaaRows
import Derived.Test.YthdhnkgnbdociaaEl
import Derived.Test.YthdhnkgnbdociaaKk
import Derived.WalkKit
import Derived.ProofKit
import Derived.OpenShut
import Derived.ShutString
import Derived.ChangeOld
import Derived.Below
import Derived.Deep.Slices
set_option linter.all false
set_option maxRecDepth 100000
namespace Go.Proofs.Ythdhnkgnbdociaa
open Go Go.RowKit Go.ChangeShapes Go.WideShapes Go.ChangeAt

theorem own_ : ownKnob Try.prog.godebug = none := by kernel_rfl
theorem laidOut_ : laidOutB Try.prog = true := by kernel_rfl

/-- the state at the call's beginning: nothing may turn -/
def st0 (W : World) : St := ⟨W, fun _ => False, nofun⟩
theorem law_of_rule {P : Program} {g : FuncId} {args : List Value} {W : World} (h : CallRule P g args (st0 W) (fun K _ => ∀ σ', Nx (st0 W) σ' .no → K (.bool true) σ')) :
    Calls P g args.toArray W fun e w' => e = .returned (.bool true) ∧ Below W.heap.size W w' := by
  refine (h.sound (fun v σ' => v = .bool true ∧ Below W.heap.size W σ'.w) (fun _ _ => False) (fun σ' n => ⟨rfl, n.p.os, n.p.tape, n.p.output, n.p.size, fun b hb => (n.p.own b hb id).1⟩)).mono ?_
  intro e w' he
  cases e with
  | returned v => obtain ⟨σ', rfl, rfl, hb⟩ := he; exact ⟨rfl, hb⟩
  | panicked c => obtain ⟨σ', rfl, hb⟩ := he; exact hb.elim
  | outgrown => exact he.elim

section
variable {H : Type} {enc : TypeId × Value → H} {w : World} {base fuel : Nat} {spare : Nat → Bool} {held : Bool}
theorem key_of_trod {cs : List Value} {x : DataW H × List MemPlace} (h : DataW.trod enc Try.prog w base spare held fuel 26 cs = some x) : ∃ k : Key, cs = (kc k).toList := by
  obtain ⟨xs, m, _, _, hl, hn, hel⟩ := DataW.trod_array (inferInstance : U Try.prog 26 _).h h
  have c5 : Try.prog.cellsOf 5 = 1 := by kernel_rfl
  have c24 : Try.prog.cellsOf 26 = 32 := by kernel_rfl
  rw [c24] at hl
  have key : ∀ i, i < 32 → ∃ b : UInt8, cs[i]? = some (u8v b) := by
    intro i hi
    have hE := hel i hi
    rw [c5, Nat.mul_one, List.getElem?_eq_getElem (by omega)] at hE
    obtain ⟨z, e1, e2, wz⟩ := DataW.trod_int (inferInstance : U Try.prog 5 _).h hE
    have hz := bounds_u8 wz
    have h0 : ((cs.drop i).take 1)[0]? = some (.int .u8 z) := by rw [e1]; rfl
    refine ⟨UInt8.ofNat z.toNat, ?_⟩
    have h1 : cs[i]? = some (.int .u8 z) := by simpa using h0
    rw [h1]
    have hm : (UInt8.ofNat z.toNat).toNat = z.toNat := by simp; omega
    unfold u8v
    rw [hm, Int.toNat_of_nonneg hz.1]
  refine ⟨Vector.ofFn fun i => Classical.choose (key i.1 i.2), ?_⟩
  apply List.ext_getElem?
  intro i
  by_cases hi : i < 32
  · rw [Classical.choose_spec (key i hi), Array.getElem?_toList (xs := kc _), kc_get _ i hi]
    simp
  · rw [List.getElem?_eq_none (by omega), List.getElem?_eq_none (by simp [kc_size]; omega)]
theorem open_key {r : Reach} {v : Value} {d : DataW H} {p : List MemPlace} (hv : Value.okWide Try.prog w r base 26 v) {base' : Nat} (h : DataW.Trod enc Try.prog w base' spare held 26 v d p) : ∃ k : Key, v = .agg (kc k) := by
  obtain ⟨cs, rfl, hsz, _⟩ : ∃ cs, v = .agg cs ∧ cs.size = Try.prog.cellsOf 26 ∧ Row.okWide Try.prog w r base 26 cs := by
    simpa [Value.okWide, (inferInstance : U Try.prog 26 _).h] using hv
  obtain ⟨fuel, hf⟩ := h
  obtain ⟨k, hk⟩ := key_of_trod hf
  exact ⟨k, by congr 1; exact Array.ext' hk⟩
theorem open_u8 {r : Reach} {v : Value} {d : DataW H} {p : List MemPlace} (hv : Value.okWide Try.prog w r base 5 v) {base' : Nat} (h : DataW.Trod enc Try.prog w base' spare held 5 v d p) : ∃ x : UInt8, v = .int .u8 (x.toNat : Int) := by
  obtain ⟨z, rfl, rfl, rfl, wz⟩ := open_int (inferInstance : U Try.prog 5 _).h hv h
  have hz := bounds_u8 wz
  refine ⟨UInt8.ofNat z.toNat, ?_⟩
  have hm : (UInt8.ofNat z.toNat).toNat = z.toNat := by simp; omega
  rw [hm, Int.toNat_of_nonneg hz.1]
theorem sl_of_trod' {P : Program} {α : Type} [Inhabited α] {E : Elem α} {t e : TypeId} {fuel : Nat} {a : Option Addr} {n c : Nat} {x : DataW H × List MemPlace} (u : P.underlying t = some (.slice e)) (hc : P.cellsOf e = E.sz)
    (hE : ∀ {fuel : Nat} {cs : List Value} {x : DataW H × List MemPlace}, DataW.trod enc P w 0 spare held fuel e cs = some x → ∃ y, cs = (E.val y).cells.toList ∧ E.ok (st0 w) y)
    (hf : DataW.trod enc P w 0 spare held fuel t [.slice a n c] = some x) : ∃ xs, SL (st0 w) a n c E xs := by
  rcases Go.Deep.open_slice u hf with ⟨hcs, _⟩ | ⟨a', len, cap, m, k, D, Pl, hcs, _, hl, hm, hmm, _, hel⟩
  · have : Value.slice a n c = .slice none 0 0 := by simpa using hcs
    injection this with h1 h2 h3
    subst h1; subst h2; subst h3
    exact ⟨[], ⟨rfl, Nat.le_refl _, by omega, by simp, .inl rfl⟩⟩
  · have : Value.slice a n c = .slice (some a') len cap := by simpa using hcs
    injection this with h1 h2 h3
    subst h1; subst h2; subst h3
    have hnm : n ≤ m := by rw [hmm]; split <;> omega
    obtain ⟨f, hf⟩ := Go.Deep.choose_lt (n := n) (p := fun i y => w.cells? 0 (a'.add (i * E.sz)) E.sz = some (E.val y).cells.toList ∧ E.ok (st0 w) y) (fun i hi => by
      obtain ⟨cs', h1, h2⟩ := hel i (by omega)
      obtain ⟨y, rfl, hy⟩ := hE h2
      rw [hc] at h1
      exact ⟨y, h1, hy⟩)
    refine ⟨(List.range n).map f, ⟨by simp, hl, ?_, ?_, ?_⟩⟩
    · simp only [maxLen] at hm; omega
    · intro x hx
      obtain ⟨i, hi, rfl⟩ := List.mem_map.1 hx
      exact (hf i (List.mem_range.1 hi)).2
    · by_cases h0 : n = 0
      · exact .inl h0
      · have hpos := E.pos
        have cell : ∀ i j, i < n → j < E.sz → w.cell? ((a'.add (i * E.sz)).add j) = (E.val (f i)).cells[j]? := by
          intro i j hi hj
          have := (World.cells?_some (hf i hi).1).2.2 j hj
          simpa using this
        have c0 := cell 0 0 (by omega) hpos
        have hs0 : 0 < (E.val (f 0)).cells.size := by rw [E.size]; exact hpos
        rw [Array.getElem?_eq_getElem hs0] at c0
        have hsp := World.cell?_spot c0
        obtain ⟨b, o, spot⟩ := a'
        have hspot : spot = none := by
          cases spot with
          | none => rfl
          | some q => simp [Addr.add] at hsp
        subst hspot
        have hblk : b < w.heap.size := by
          have := World.cells?_block (hf 0 (by omega)).1 hpos
          simpa [add_at] using this
        refine .inr ⟨b, o, rfl, id, hblk, fun j v hj => ?_⟩
        have hjl : j < n * E.sz := by
          have := (List.getElem?_eq_some_iff.1 hj).1
          rw [E.flat_length] at this; simpa using this
        have hi : j / E.sz < n := Nat.div_lt_of_lt_mul (by rw [Nat.mul_comm]; exact hjl)
        have hr : j % E.sz < E.sz := Nat.mod_lt _ hpos
        have e1 := E.flat_get ((List.range n).map f) (j / E.sz) (j % E.sz) (by simpa using hi) hr
        have e2 : j / E.sz * E.sz + j % E.sz = j := by rw [Nat.mul_comm]; exact Nat.div_add_mod j E.sz
        rw [e2, hj] at e1
        have e3 := cell (j / E.sz) (j % E.sz) hi hr
        rw [add_at, add_at, Nat.add_assoc, e2] at e3
        show w.cell? _ = _
        rw [e3]
        simpa using e1.symm
theorem open_sl {P : Program} {α : Type} [Inhabited α] {E : Elem α} {t e : TypeId} (u : P.underlying t = some (.slice e)) (hc : P.cellsOf e = E.sz)
    (hE : ∀ {fuel : Nat} {cs : List Value} {x : DataW H × List MemPlace}, DataW.trod enc P w 0 spare held fuel e cs = some x → ∃ y, cs = (E.val y).cells.toList ∧ E.ok (st0 w) y)
    {r : Reach} {b0 : Nat} {v : Value} {d : DataW H} {p : List MemPlace} (hv : Value.okWide P w r b0 t v) (h : DataW.Trod enc P w 0 spare held t v d p) : ∃ A n c xs, v = .slice A n c ∧ SL (st0 w) A n c E xs := by
  obtain ⟨a, n, c, rfl⟩ := okWide_slice u hv
  obtain ⟨fuel, hf⟩ := h
  obtain ⟨xs, hs⟩ := sl_of_trod' u hc hE (by simpa [Value.cells] using hf)
  exact ⟨a, n, c, xs, rfl, hs⟩
theorem open_keys {r : Reach} {v : Value} {d : DataW H} {p : List MemPlace} {b0 : Nat} (hv : Value.okWide Try.prog w r b0 27 v) (h : DataW.Trod enc Try.prog w 0 spare held 27 v d p) : ∃ A n c xs, v = .slice A n c ∧ SL (st0 w) A n c keyE xs :=
  open_sl (inferInstance : U Try.prog 27 _).h (by kernel_rfl) (fun h => by
    obtain ⟨k, hk⟩ := key_of_trod h
    exact ⟨k, hk, trivial⟩) hv h
end
end Go.Proofs.Ythdhnkgnbdociaa
