/- From the given row to the walk: structs and slices of them. No condition. -/
import Derived.Test.YthdhnkgnbdociaaFr
import Derived.Test.YthdhnkgnbdociaaEc
import Derived.Test.YthdhnkgnbdociaaEi
set_option linter.all false
set_option maxRecDepth 100000
set_option maxHeartbeats 4000000
namespace Go.Proofs.Ythdhnkgnbdociaa
open Go Go.RowKit Go.ChangeShapes Go.WideShapes Go.ChangeAt
theorem piece (cs : List Value) (o s : Nat) {r : Nat} (h : o + s = r) : cs.drop o = (cs.drop o).take s ++ cs.drop r := by
  subst h
  rw [← List.drop_drop, List.take_append_drop]
section
variable {H : Type} {enc : TypeId × Value → H} {w : World} {base fuel : Nat} {spare : Nat → Bool} {held : Bool} {P : Program} {t : TypeId} {cs : List Value} {x : DataW H × List MemPlace}
theorem u8_of_trod (u : P.underlying t = some (.int .u8)) (h : DataW.trod enc P w base spare held fuel t cs = some x) : ∃ y : UInt8, cs = [.int .u8 (y.toNat : Int)] := by
  obtain ⟨z, e1, _, wz⟩ := DataW.trod_int u h
  have hz : 0 ≤ z ∧ z ≤ 255 := by simpa [Lit.wf, IntKind.min, IntKind.max, IntKind.signed, IntKind.bits] using wz
  refine ⟨UInt8.ofNat z.toNat, ?_⟩
  have hm : (UInt8.ofNat z.toNat).toNat = z.toNat := by simp; omega
  rw [hm, Int.toNat_of_nonneg hz.1, e1]
theorem u16_of_trod (u : P.underlying t = some (.int .u16)) (h : DataW.trod enc P w base spare held fuel t cs = some x) : ∃ y : UInt16, cs = [.int .u16 (y.toNat : Int)] := by
  obtain ⟨z, e1, _, wz⟩ := DataW.trod_int u h
  have hz : 0 ≤ z ∧ z ≤ 65535 := by simpa [Lit.wf, IntKind.min, IntKind.max, IntKind.signed, IntKind.bits] using wz
  refine ⟨UInt16.ofNat z.toNat, ?_⟩
  have hm : (UInt16.ofNat z.toNat).toNat = z.toNat := by simp; omega
  rw [hm, Int.toNat_of_nonneg hz.1, e1]
theorem u32_of_trod (u : P.underlying t = some (.int .u32)) (h : DataW.trod enc P w base spare held fuel t cs = some x) : ∃ y : UInt32, cs = [.int .u32 (y.toNat : Int)] := by
  obtain ⟨z, e1, _, wz⟩ := DataW.trod_int u h
  have hz : 0 ≤ z ∧ z ≤ 4294967295 := by simpa [Lit.wf, IntKind.min, IntKind.max, IntKind.signed, IntKind.bits] using wz
  refine ⟨UInt32.ofNat z.toNat, ?_⟩
  have hm : (UInt32.ofNat z.toNat).toNat = z.toNat := by simp; omega
  rw [hm, Int.toNat_of_nonneg hz.1, e1]
theorem i64_of_trod (u : P.underlying t = some (.int .i64)) (h : DataW.trod enc P w base spare held fuel t cs = some x) : ∃ y : Int64, cs = [.int .i64 y.toInt] := by
  obtain ⟨z, e1, _, wz⟩ := DataW.trod_int u h
  have hz : -9223372036854775808 ≤ z ∧ z ≤ 9223372036854775807 := by simpa [Lit.wf, IntKind.min, IntKind.max, IntKind.signed, IntKind.bits] using wz
  refine ⟨Int64.ofInt z, ?_⟩
  rw [Int64.toInt_ofInt_of_le (by omega) (by omega), e1]
theorem i32_of_trod (u : P.underlying t = some (.int .i32)) (h : DataW.trod enc P w base spare held fuel t cs = some x) : ∃ y : Int32, cs = [.int .i32 y.toInt] := by
  obtain ⟨z, e1, _, wz⟩ := DataW.trod_int u h
  have hz : -2147483648 ≤ z ∧ z ≤ 2147483647 := by simpa [Lit.wf, IntKind.min, IntKind.max, IntKind.signed, IntKind.bits] using wz
  refine ⟨Int32.ofInt z, ?_⟩
  rw [Int32.toInt_ofInt_of_le (by omega) (by omega), e1]
theorem sl_of_trod {α : Type} [Inhabited α] {E : Elem α} {e : TypeId} (u : P.underlying t = some (.slice e)) (hc : P.cellsOf e = E.sz)
    (hE : ∀ {fuel : Nat} {cs : List Value} {x : DataW H × List MemPlace}, DataW.trod enc P w 0 spare held fuel e cs = some x → ∃ y, cs = (E.val y).cells.toList ∧ E.ok (st0 w) y)
    (h : DataW.trod enc P w 0 spare held fuel t cs = some x) : ∃ A n c xs, cs = [.slice A n c] ∧ SL (st0 w) A n c E xs := by
  obtain ⟨A, n, c, rfl⟩ : ∃ A n c, cs = [.slice A n c] := by
    rcases Go.Deep.open_slice u h with ⟨hcs, _⟩ | ⟨a', len, cap, m, k, D, Pl, hcs, _⟩
    · exact ⟨_, _, _, hcs⟩
    · exact ⟨_, _, _, hcs⟩
  obtain ⟨xs, hs⟩ := sl_of_trod' u hc hE h
  exact ⟨A, n, c, xs, rfl, hs⟩
theorem open_pt_35 {fuel : Nat} {cs : List Value} {x : DataW H × List MemPlace} (h : DataW.trod enc Try.prog w 0 spare held fuel 35 cs = some x) : ∃ y : Pt, cs = (ptE.val y).cells.toList ∧ ptE.ok (st0 w) y := by
  obtain ⟨xs, n, _, _, hl, hlen, hf⟩ := DataW.trod_struct (inferInstance : U Try.prog 35 _).h h
  rw [show Try.prog.cellsOf 35 = 33 from by kernel_rfl] at hl
  simp only [List.size_toArray, List.length_cons, List.length_nil] at hlen
  have f0 := hf 0 { name := "Tx", type := 26, offset := 0, embedded := false, tag := "", pkgPath := "", byteOffset := 0 } rfl
  simp only at f0
  rw [List.getElem?_eq_getElem (show 0 < xs.length by omega)] at f0
  obtain ⟨y0, e0⟩ := key_of_trod f0
  rw [show Try.prog.cellsOf 26 = 32 from by kernel_rfl] at e0
  have f1 := hf 1 { name := "Index", type := 22, offset := 32, embedded := false, tag := "", pkgPath := "", byteOffset := 32 } rfl
  simp only at f1
  rw [List.getElem?_eq_getElem (show 1 < xs.length by omega)] at f1
  obtain ⟨y1, e1⟩ := u32_of_trod (inferInstance : U Try.prog 22 _).h f1
  rw [show Try.prog.cellsOf 22 = 1 from by kernel_rfl] at e1
  refine ⟨⟨y0, y1⟩, ?_, trivial⟩
  have e : cs = (cs.drop 0).take 32 ++ ((cs.drop 32).take 1 ++ (cs.drop 33)) := by
    rw [← piece cs 32 1 (r := 33) rfl, ← piece cs 0 32 (r := 32) rfl, List.drop_zero]
  rw [e0, e1, List.drop_of_length_le (show cs.length ≤ 33 by omega), List.append_nil] at e
  rw [e]
  simp [Value.cells, cats_toList]
theorem open_ot_40 {fuel : Nat} {cs : List Value} {x : DataW H × List MemPlace} (h : DataW.trod enc Try.prog w 0 spare held fuel 40 cs = some x) : ∃ y : Ot, cs = (otE.val y).cells.toList ∧ otE.ok (st0 w) y := by
  obtain ⟨xs, n, _, _, hl, hlen, hf⟩ := DataW.trod_struct (inferInstance : U Try.prog 40 _).h h
  rw [show Try.prog.cellsOf 40 = 33 from by kernel_rfl] at hl
  simp only [List.size_toArray, List.length_cons, List.length_nil] at hlen
  have f0 := hf 0 { name := "Value", type := 2, offset := 0, embedded := false, tag := "", pkgPath := "", byteOffset := 0 } rfl
  simp only at f0
  rw [List.getElem?_eq_getElem (show 0 < xs.length by omega)] at f0
  obtain ⟨y0, e0⟩ := i64_of_trod (inferInstance : U Try.prog 2 _).h f0
  rw [show Try.prog.cellsOf 2 = 1 from by kernel_rfl] at e0
  have f1 := hf 1 { name := "Lock", type := 26, offset := 1, embedded := false, tag := "", pkgPath := "", byteOffset := 8 } rfl
  simp only at f1
  rw [List.getElem?_eq_getElem (show 1 < xs.length by omega)] at f1
  obtain ⟨y1, e1⟩ := key_of_trod f1
  rw [show Try.prog.cellsOf 26 = 32 from by kernel_rfl] at e1
  refine ⟨⟨y0, y1⟩, ?_, trivial⟩
  have e : cs = (cs.drop 0).take 1 ++ ((cs.drop 1).take 32 ++ (cs.drop 33)) := by
    rw [← piece cs 1 32 (r := 33) rfl, ← piece cs 0 1 (r := 1) rfl, List.drop_zero]
  rw [e0, e1, List.drop_of_length_le (show cs.length ≤ 33 by omega), List.append_nil] at e
  rw [e]
  simp [Value.cells, cats_toList]
theorem open_tx_29 {fuel : Nat} {cs : List Value} {x : DataW H × List MemPlace} (h : DataW.trod enc Try.prog w 0 spare held fuel 29 cs = some x) : ∃ y : Tx, cs = (txE.val y).cells.toList ∧ txE.ok (st0 w) y := by
  obtain ⟨xs, n, _, _, hl, hlen, hf⟩ := DataW.trod_struct (inferInstance : U Try.prog 29 _).h h
  rw [show Try.prog.cellsOf 29 = 38 from by kernel_rfl] at hl
  simp only [List.size_toArray, List.length_cons, List.length_nil] at hlen
  have f0 := hf 0 { name := "Expiry", type := 22, offset := 0, embedded := false, tag := "", pkgPath := "", byteOffset := 0 } rfl
  simp only at f0
  rw [List.getElem?_eq_getElem (show 0 < xs.length by omega)] at f0
  obtain ⟨y0, e0⟩ := u32_of_trod (inferInstance : U Try.prog 22 _).h f0
  rw [show Try.prog.cellsOf 22 = 1 from by kernel_rfl] at e0
  have f1 := hf 1 { name := "Ins", type := 23, offset := 1, embedded := false, tag := "", pkgPath := "", byteOffset := 8 } rfl
  simp only at f1
  rw [List.getElem?_eq_getElem (show 1 < xs.length by omega)] at f1
  obtain ⟨A1, n1, c1, l1, e1, ok1⟩ := sl_of_trod (E := ptE) (inferInstance : U Try.prog 23 _).h (by kernel_rfl) (open_pt_35) f1
  rw [show Try.prog.cellsOf 23 = 1 from by kernel_rfl] at e1
  have f2 := hf 2 { name := "Outs", type := 24, offset := 2, embedded := false, tag := "", pkgPath := "", byteOffset := 32 } rfl
  simp only at f2
  rw [List.getElem?_eq_getElem (show 2 < xs.length by omega)] at f2
  obtain ⟨A2, n2, c2, l2, e2, ok2⟩ := sl_of_trod (E := otE) (inferInstance : U Try.prog 24 _).h (by kernel_rfl) (open_ot_40) f2
  rw [show Try.prog.cellsOf 24 = 1 from by kernel_rfl] at e2
  have f3 := hf 3 { name := "Anchor", type := 26, offset := 3, embedded := false, tag := "", pkgPath := "", byteOffset := 56 } rfl
  simp only at f3
  rw [List.getElem?_eq_getElem (show 3 < xs.length by omega)] at f3
  obtain ⟨y3, e3⟩ := key_of_trod f3
  rw [show Try.prog.cellsOf 26 = 32 from by kernel_rfl] at e3
  have f4 := hf 4 { name := "Nulls", type := 27, offset := 35, embedded := false, tag := "", pkgPath := "", byteOffset := 88 } rfl
  simp only at f4
  rw [List.getElem?_eq_getElem (show 4 < xs.length by omega)] at f4
  obtain ⟨A4, n4, c4, l4, e4, ok4⟩ := sl_of_trod (E := keyE) (inferInstance : U Try.prog 27 _).h (by kernel_rfl) (fun h => by obtain ⟨k, hk⟩ := key_of_trod h; exact ⟨k, hk, trivial⟩) f4
  rw [show Try.prog.cellsOf 27 = 1 from by kernel_rfl] at e4
  have f5 := hf 5 { name := "Notes", type := 27, offset := 36, embedded := false, tag := "", pkgPath := "", byteOffset := 112 } rfl
  simp only at f5
  rw [List.getElem?_eq_getElem (show 5 < xs.length by omega)] at f5
  obtain ⟨A5, n5, c5, l5, e5, ok5⟩ := sl_of_trod (E := keyE) (inferInstance : U Try.prog 27 _).h (by kernel_rfl) (fun h => by obtain ⟨k, hk⟩ := key_of_trod h; exact ⟨k, hk, trivial⟩) f5
  rw [show Try.prog.cellsOf 27 = 1 from by kernel_rfl] at e5
  have f6 := hf 6 { name := "Balance", type := 2, offset := 37, embedded := false, tag := "", pkgPath := "", byteOffset := 136 } rfl
  simp only at f6
  rw [List.getElem?_eq_getElem (show 6 < xs.length by omega)] at f6
  obtain ⟨y6, e6⟩ := i64_of_trod (inferInstance : U Try.prog 2 _).h f6
  rw [show Try.prog.cellsOf 2 = 1 from by kernel_rfl] at e6
  refine ⟨⟨y0, ⟨A1, n1, c1, l1⟩, ⟨A2, n2, c2, l2⟩, y3, ⟨A4, n4, c4, l4⟩, ⟨A5, n5, c5, l5⟩, y6⟩, ?_, ⟨ok1, ok2, ok4, ok5⟩⟩
  have e : cs = (cs.drop 0).take 1 ++ ((cs.drop 1).take 1 ++ ((cs.drop 2).take 1 ++ ((cs.drop 3).take 32 ++ ((cs.drop 35).take 1 ++ ((cs.drop 36).take 1 ++ ((cs.drop 37).take 1 ++ (cs.drop 38))))))) := by
    rw [← piece cs 37 1 (r := 38) rfl, ← piece cs 36 1 (r := 37) rfl, ← piece cs 35 1 (r := 36) rfl, ← piece cs 3 32 (r := 35) rfl, ← piece cs 2 1 (r := 3) rfl, ← piece cs 1 1 (r := 2) rfl, ← piece cs 0 1 (r := 1) rfl, List.drop_zero]
  rw [e0, e1, e2, e3, e4, e5, e6, List.drop_of_length_le (show cs.length ≤ 38 by omega), List.append_nil] at e
  rw [e]
  simp [Value.cells, cats_toList]
theorem agg_of {t : TypeId} {fs : Array Field} (u : P.underlying t = some (.struct fs)) {r : Reach} {v : Value} (hv : Value.okWide P w r base t v) : ∃ cs, v = .agg cs := by
  obtain ⟨cs, rfl, _, _⟩ : ∃ cs, v = .agg cs ∧ cs.size = P.cellsOf t ∧ Row.okWide P w r base t cs := by
    simpa [Value.okWide, u] using hv
  exact ⟨cs, rfl⟩
theorem open_struct {α : Type} {E : Elem α} {t : TypeId} {fs : Array Field} (u : P.underlying t = some (.struct fs)) (hs : ∀ x, E.val x = .agg (E.val x).cells)
    (hE : ∀ {fuel : Nat} {cs : List Value} {x : DataW H × List MemPlace}, DataW.trod enc P w 0 spare held fuel t cs = some x → ∃ y, cs = (E.val y).cells.toList ∧ E.ok (st0 w) y)
    {r : Reach} {b0 : Nat} {v : Value} {d : DataW H} {p : List MemPlace} (hv : Value.okWide P w r b0 t v) (h : DataW.Trod enc P w 0 spare held t v d p) : ∃ x, v = E.val x ∧ E.ok (st0 w) x := by
  obtain ⟨cs, rfl⟩ := agg_of u hv
  obtain ⟨fuel, hf⟩ := h
  obtain ⟨y, e, ok⟩ := hE hf
  refine ⟨y, ?_, ok⟩
  rw [hs y]
  congr 1
  exact Array.ext' e
theorem open_int1 {t : TypeId} {k : IntKind} (u : P.underlying t = some (.int k)) {r : Reach} {b0 : Nat} {v : Value} {d : DataW H} {p : List MemPlace} (hv : Value.okWide P w r b0 t v) (h : DataW.Trod enc P w 0 spare held t v d p) : ∃ z, v = .int k z ∧ ∃ fuel x, DataW.trod enc P w 0 spare held fuel t [.int k z] = some x := by
  obtain ⟨z, rfl, _⟩ := open_int u hv h
  obtain ⟨fuel, hf⟩ := h
  exact ⟨z, rfl, fuel, _, by simpa [Value.cells] using hf⟩
theorem open_bool1 {t : TypeId} (u : P.underlying t = some .bool) {r : Reach} {b0 : Nat} {v : Value} (hv : Value.okWide P w r b0 t v) : ∃ z, v = .bool z := by
  exact okWide_bool u hv
end
end Go.Proofs.Ythdhnkgnbdociaa
