/- Elements: keys; equality of keys; bytes of a key. No condition. -/
import Derived.ChangeKeysEq
import Derived.Laws.StructEq
import Derived.Test.YthdhnkgnbdociaaSm
import Derived.Test.YthdhnkgnbdociaaTyp
set_option linter.all false
set_option maxHeartbeats 40000000
set_option synthInstance.maxHeartbeats 2000000
set_option synthInstance.maxSize 100000
namespace Go.Proofs.Ythdhnkgnbdociaa
open Go Go.RowKit

theorem lt_of_nble {i n : Nat} (h : Nat.ble n i = false) : i < n := Nat.lt_of_not_le fun k => by rw [Nat.ble_eq_true_of_le k] at h; cases h
instance (priority := low) IdxLt.lit {i n : Nat} [h : EqB (Nat.ble n i) false] : IdxLt i n := ⟨lt_of_nble h.eq⟩

@[reducible] def keyE : Elem Key := { sz := 32, agg := true, val := fun k => .agg (kc k), ok := fun _ _ => True, pos := by omega, size := fun k => kc_size k, one := fun k => (CSz.key (k := k)).one, shapeA := fun _ _ => rfl, shape1 := nofun }
instance se_key : SmallE keyE := ⟨by decide⟩
abbrev key0 : Key := Vector.replicate 32 0
instance eo_key : ElemOf Try.prog 26 keyE 32 := ⟨inferInstance⟩
instance fv_key : FlatV keyE (fun k => .agg (kc k)) := ⟨rfl⟩
instance ev_key {σ : St} {k : Key} : EncV σ keyE (.agg (kc k)) k := ⟨rfl, trivial⟩
theorem kc_zero : kc key0 = Array.replicate 32 (.int .u8 0) := by kernel_rfl
instance tz_key : TZ Try.prog 26 (kc key0) := TZ.mk_ (by rw [kc_zero]; kernel_rfl)
theorem ZeroE.of {P : Program} {t : TypeId} {α : Type} {E : Elem α} {z : α} (h : TZ P t (E.val z).cells) (ok : ∀ σ, E.ok σ z) : ZeroE P t E z := ⟨h.h, ok⟩
instance ze_key : ZeroE Try.prog 26 keyE key0 := ZeroE.of tz_key (fun _ => trivial)

/-- equality of keys -/
theorem run_part1 {P : Program} {e : TypeId} {size bytes : Nat} (ti : TI P e false size bytes) {cs : Array Value} {i : Nat} {v : Value} (h : cs[i]? = some v) (w : World) : (part e cs i).run P w = .ok v w := by
  unfold part
  rw [Sem.run_bind, ti.run_isAgg]
  simp [h]
theorem u8_beq (x y : UInt8) : ((x.toNat : Int) == (y.toNat : Int)) = (x == y) := by
  rw [Bool.eq_iff_iff]
  simp only [beq_iff_eq]
  exact ⟨fun h => UInt8.toNat_inj.1 (by omega), fun h => by rw [h]⟩
theorem eqItems_u8 {P : Program} {e : TypeId} {bytes : Nat} (ti : TI P e false 1 bytes) (hu : P.underlying e = some (.int .u8)) (d : Nat) (w : World) (a b : Key) : ∀ (is : List Nat), (∀ i ∈ is, i < 32) →
    (Op.eqItems (d + 1) e 1 (kc a) (kc b) is).run P w = .ok (is.all fun i => a[i]! == b[i]!) w
  | [], _ => by simp [Op.eqItems]
  | i :: is, h => by
    have hi : i < 32 := h i (by simp)
    have ih := eqItems_u8 ti hu d w a b is (fun j hj => h j (by simp [hj]))
    have ha : (part e (kc a) (i * 1)).run P w = .ok (u8v a[i]) w := run_part1 ti (by simpa using kc_get a i hi) w
    have hb : (part e (kc b) (i * 1)).run P w = .ok (u8v b[i]) w := run_part1 ti (by simpa using kc_get b i hi) w
    have he : (Op.equalIn (d + 1) e (u8v a[i]) (u8v b[i])).run P w = .ok (a[i] == b[i]) w := by
      unfold u8v
      rw [run_equalIn_int w d e .u8 .u8 _ _ hu, u8_beq]
    have h1 : a[i]! = a[i] := getElem!_pos a i hi
    have h2 : b[i]! = b[i] := getElem!_pos b i hi
    simp only [Op.eqItems, Sem.run_bind, ha, hb, he, Result.andThen_ok, List.all_cons, h1, h2]
    by_cases e : a[i] = b[i]
    · simp [e, ih]
    · simp [e]
theorem all_eq_key (a b : Key) : ((List.range 32).all fun i => a[i]! == b[i]!) = decide (a = b) := by
  rw [Bool.eq_iff_iff]
  simp only [List.all_eq_true, List.mem_range, beq_iff_eq, decide_eq_true_eq]
  constructor
  · intro h
    apply Vector.ext
    intro i hi
    have := h i hi
    rwa [getElem!_pos a i hi, getElem!_pos b i hi] at this
  · rintro rfl i _; rfl
theorem run_equalIn_key (d : Nat) (w : World) (a b : Key) : (Op.equalIn (d + 2) 26 (.agg (kc a)) (.agg (kc b))).run Try.prog w = .ok (decide (a = b)) w := by
  obtain ⟨d0, i, hd0, hag, hi, hsz, hby⟩ := (inferInstance : TI Try.prog 5 false 1 1).h
  rw [run_equalIn_array w (d + 1) (kc a) (kc b) (inferInstance : U Try.prog 26 _).h hi, show Try.prog.cellsOf 5 = 1 from by kernel_rfl]
  rw [eqItems_u8 (inferInstance) (inferInstance : U Try.prog 5 _).h d w a b _ (fun i hi => List.mem_range.1 hi), all_eq_key]
theorem Eqv.of_agg {P : Program} {t : TypeId} {x y : Array Value} {b : Bool} (hg : P.eqGuardType P.depth t = false) (he : ∀ w, (Op.equalIn 10000 t (.agg x) (.agg y)).run P w = .ok b w) : Eqv P t (.agg x) (.agg y) b := by
  refine ⟨fun X Y w => ?_, fun X Y w => ?_⟩
  all_goals
    simp only [Sem.run_bind]
    have h1 : ∀ op : BinOp, (eqGuard op t X Y (.agg x) (.agg y)).run P w = .ok () w := by
      intro op; cases op <;> simp [eqGuard, program, Sem.run, hg]
    rw [h1]
    simp only [Result.andThen_ok, binOp, Op.equal, Op.maxDepth, Sem.run_bind, he]
    rfl
instance eq_key {a b : Key} {bb : Bool} [q : BV (decide (a = b)) bb] : Eqv Try.prog 26 (.agg (kc a)) (.agg (kc b)) bb := by
  have hq := q.eq; subst hq
  exact Eqv.of_agg (by kernel_rfl) (fun w => run_equalIn_key 9998 w a b)

/-- a byte of a key -/
instance StepV.indexAddr_arr {P : Program} {f : Fr} {σ : St} {ty : TypeId} {t e : TypeId} {m b bytes i : Nat} {agg : Bool} {x ix : Operand} {k : IntKind} {j : Int} [h : Ev f x (.pointer (some ⟨b, 0, none⟩))] [g : Ev f ix (.int k j)] [u : U P t (.array m e)] [ti : TI P e agg 1 bytes] [q : ToNat j i] [l : IdxLt i m] :
    StepV P (.indexAddr t x ix) ty f σ (.pointer (some ⟨b, i, none⟩)) := ⟨by
  have hj := q.eq
  subst hj
  have hl := l.lt
  simp [execOp, h.eq, g.eq, Instr.indexAt, asIntOf, run_underlying u.h, Instr.sureAddr, ti.run_sizeOf, hl, add_at]⟩
instance LoadV.key {k : Key} {i : Nat} [l : IdxLt i 32] : LoadV (kc k) i 1 false (.int .u8 ((k[i]!).toNat : Int)) :=
  ⟨by have := l.lt; rw [kc_size]; omega, nofun, fun _ => ⟨by rw [kc_get k i l.lt, getElem!_pos k i l.lt]; rfl, rfl⟩⟩
def setB (k : Key) (i : Nat) (x : UInt8) : Key := if h : i < 32 then k.set i x else k
theorem kc_set (k : Key) (i : Nat) (h : i < 32) (x : UInt8) : putCells (kc k) i #[u8v x] = kc (setB k i x) := by
  unfold setB
  rw [dif_pos h]
  apply Array.ext_getElem?
  intro j
  simp only [putCells, List.getElem?_toArray]
  by_cases hj : j < 32
  · rw [kc_get _ j hj]
    have hlen : ((kc k).toList.take i).length = i := by simp [kc_size]; omega
    by_cases hji : j < i
    · rw [List.append_assoc, List.getElem?_append_left (by omega), List.getElem?_take, if_pos hji, Array.getElem?_toList, kc_get k j hj, Vector.getElem_set_ne _ _ (by omega)]
    · by_cases e : j = i
      · subst e
        rw [List.append_assoc, List.getElem?_append_right (by omega), hlen]
        simp
      · rw [List.getElem?_append_right (by simp [hlen]; omega)]
        simp only [List.length_append, hlen, List.length_singleton, List.getElem?_drop]
        simp only [List.size_toArray, List.length_cons, List.length_nil]
        rw [show i + (0 + 1) + (j - (i + 1)) = j by omega, Array.getElem?_toList, kc_get k j hj, Vector.getElem_set_ne _ _ (by omega)]
  · rw [List.getElem?_eq_none, Array.getElem?_eq_none (by simp [kc_size]; omega)]
    simp [kc_size]; omega
/-- one number of the kind uint8 -/
class U8 (n : Int) (x : outParam UInt8) : Prop where
  eq : n = (x.toNat : Int)
instance U8.cast {x : UInt8} : U8 (x.toNat : Int) x := ⟨rfl⟩
instance (priority := low) U8.lit {n : Nat} [h : EqB (Nat.ble n 255) true] : U8 (no_index (OfNat.ofNat n) : Int) (UInt8.ofNat n) := ⟨by
  have := Nat.le_of_ble_eq_true h.eq
  simp only [UInt8.toNat_ofNat', show (OfNat.ofNat n : Int) = (n : Int) from rfl]
  omega⟩
instance PutV.key {k : Key} {i : Nat} {n : Int} {x : UInt8} [l : IdxLt i 32] [u : U8 n x] : PutV (kc k) i #[.int .u8 n] (kc (setB k i x)) :=
  ⟨by have := l.lt; simp [kc_size]; omega, by rw [u.eq]; exact kc_set k i l.lt x⟩
/-- a key of which at most the first byte is said -/
theorem run_build_arr {P : Program} {t e : TypeId} {n size bytes : Nat} {agg : Bool} {cs cs' : Array Value} {w : World} (u : U P t (.array n e)) (ti : TI P e agg size bytes) (tz : TZ P t cs) (ps : Array (Nat × Value)) (h : Instr.fill (fun i => some (i * size, size)) cs ps.toList = some cs') :
    (Instr.build t ps).run P w = .ok (.agg cs') w := by
  obtain ⟨i, z, hi, hz, hc⟩ := tz.h
  simp [Instr.build, zeroValue, typeInfo, hi, hz, hc, run_underlying u.h, ti.run_sizeOf, h]
instance build_key0 {f : Fr} {σ : St} {ty : TypeId} : StepV Try.prog (.build 26 #[]) ty f σ (.agg (kc key0)) := ⟨by
  have := run_build_arr (w := σ.w) (inferInstance : U Try.prog 26 _) (inferInstance : TI Try.prog 5 false 1 1) tz_key #[] rfl
  simp [execOp, this]⟩
instance build_key1 {f : Fr} {σ : St} {ty : TypeId} {x : Operand} {n : Int} {b : UInt8} [h : Ev f x (.int .u8 n)] [u : U8 n b] : StepV Try.prog (.build 26 #[(0, x)]) ty f σ (.agg (kc (setB key0 0 b))) := ⟨by
  have hs := kc_set key0 0 (by omega) b
  have hn := u.eq
  subst hn
  have hz : (kc key0).size = 32 := kc_size _
  have hf : Instr.fill (fun i => some (i * 1, 1)) (kc key0) [(0, u8v b)] = some (kc (setB key0 0 b)) := by
    rw [← hs]
    have hc : (u8v b).cells = #[u8v b] := rfl
    simp only [Instr.fill, hc]
    rw [if_neg (by simp [hz])]
    simp only [Option.some.injEq]
    apply Array.ext'
    generalize kc key0 = a at hz
    obtain ⟨l⟩ := a
    match l, hz with
    | x :: l, _ => simp [putCells]
  have := run_build_arr (w := σ.w) (inferInstance : U Try.prog 26 _) (inferInstance : TI Try.prog 5 false 1 1) tz_key #[(0, u8v b)] hf
  simp only [execOp, h.eq, List.map_toArray, List.map_cons, List.map_nil]
  unfold u8v at this
  rw [Sem.run_bind, this]
  rfl⟩
end Go.Proofs.Ythdhnkgnbdociaa
