/- Elements: points, outs, coins, transactions. No condition. -/
import Derived.Test.YthdhnkgnbdociaaFld
import Derived.Test.YthdhnkgnbdociaaKk
set_option linter.all false
set_option maxRecDepth 100000
set_option maxHeartbeats 40000000
set_option synthInstance.maxHeartbeats 2000000
set_option synthInstance.maxSize 100000
namespace Go.Proofs.Ythdhnkgnbdociaa
open Go Go.RowKit
structure Pt where
  tx : Key
  idx : UInt32
  deriving DecidableEq, Inhabited
@[reducible] def ptE : Elem Pt := { sz := 33, agg := true, val := fun x => .agg (cats [kc x.tx, #[.int .u32 (x.idx.toNat : Int)]]), ok := fun s x => True, pos := by omega, size := fun x => (by have h : CSz (cats [kc x.tx, #[.int .u32 (x.idx.toNat : Int)]]) 33 := inferInstance; exact h.size), one := fun x => (by have h : CSz (cats [kc x.tx, #[.int .u32 (x.idx.toNat : Int)]]) 33 := inferInstance; exact h.one), shapeA := fun _ _ => rfl, shape1 := nofun }
instance se_ptE : SmallE ptE := ⟨by decide⟩
instance fv_ptE : FlatV ptE (fun x => .agg (cats [kc x.tx, #[.int .u32 (x.idx.toNat : Int)]])) := ⟨rfl⟩
instance pl_ptE : Plain ptE := ⟨fun _ _ => trivial⟩
instance (priority := high) vo_ptE {x : Pt} : ValOf ptE (.agg (cats [kc x.tx, #[.int .u32 (x.idx.toNat : Int)]])) x := ⟨rfl⟩
instance (priority := low) vp_ptE {a0 : Key} {n1 : Int} {a1 : UInt32} [h1 : U32 n1 a1] : ValOf ptE (.agg (cats [kc a0, #[.int .u32 n1]])) ⟨a0, a1⟩ := ⟨by rw [h1.eq]⟩
abbrev z_ptE : Pt := ⟨key0, 0⟩
instance eo_ptE_35 : ElemOf Try.prog 35 ptE 36 := ⟨inferInstance⟩
instance ze_ptE_35 : ZeroE Try.prog 35 ptE z_ptE := ZeroE.of (show TZ Try.prog 35 _ from tz35) (fun _ => trivial)
instance zv_ptE_35 : ZeroVal Try.prog 35 ptE z_ptE := ⟨zv_of (by kernel_rfl)⟩
instance eqd_ptE_35 : EqD Try.prog 35 ptE 3 := ⟨fun d w a b => by
  show (Op.equalIn (d + 2 + 1) 35 (.agg _) (.agg _)).run Try.prog w = _
  rw [run_equalIn_struct w (d + 2) 35 _ _ (by kernel_rfl) (by kernel_rfl), show (Try.prog.fieldsOf 35).toList = [{ name := "Tx", type := 26, offset := 0, embedded := false, tag := "", pkgPath := "", byteOffset := 0 }, { name := "Index", type := 22, offset := 32, embedded := false, tag := "", pkgPath := "", byteOffset := 32 }] from by kernel_rfl]
  refine ((eqFields_cons (g := { name := "Tx", type := 26, offset := 0, embedded := false, tag := "", pkgPath := "", byteOffset := 0 }) (b := decide (a.tx = b.tx)) (by kernel_rfl) (run_field (inferInstance : TI Try.prog 26 _ _ _) inferInstance w) (run_field (inferInstance : TI Try.prog 26 _ _ _) inferInstance w) (run_equalIn_key (d + 0) w a.tx b.tx) (eqFields_cons (g := { name := "Index", type := 22, offset := 32, embedded := false, tag := "", pkgPath := "", byteOffset := 32 }) (b := decide (a.idx = b.idx)) (by kernel_rfl) (run_field (inferInstance : TI Try.prog 22 _ _ _) inferInstance w) (run_field (inferInstance : TI Try.prog 22 _ _ _) inferInstance w) ((run_equalIn_int w (d + 1) 22 _ _ _ _ tu22.h).trans (by rw [u32_beq])) (eqFields_nil)))).trans ?_
  congr 1; obtain ⟨a0, a1⟩ := a; obtain ⟨b0, b1⟩ := b; simp [Bool.and_assoc, Bool.decide_and], by kernel_rfl⟩
structure Ot where
  val : Int64
  lock : Key
  deriving DecidableEq, Inhabited
@[reducible] def otE : Elem Ot := { sz := 33, agg := true, val := fun x => .agg (cats [#[.int .i64 x.val.toInt], kc x.lock]), ok := fun s x => True, pos := by omega, size := fun x => (by have h : CSz (cats [#[.int .i64 x.val.toInt], kc x.lock]) 33 := inferInstance; exact h.size), one := fun x => (by have h : CSz (cats [#[.int .i64 x.val.toInt], kc x.lock]) 33 := inferInstance; exact h.one), shapeA := fun _ _ => rfl, shape1 := nofun }
instance se_otE : SmallE otE := ⟨by decide⟩
instance fv_otE : FlatV otE (fun x => .agg (cats [#[.int .i64 x.val.toInt], kc x.lock])) := ⟨rfl⟩
instance pl_otE : Plain otE := ⟨fun _ _ => trivial⟩
instance (priority := high) vo_otE {x : Ot} : ValOf otE (.agg (cats [#[.int .i64 x.val.toInt], kc x.lock])) x := ⟨rfl⟩
instance (priority := low) vp_otE {n0 : Int} {a0 : Int64} [h0 : I64 n0 a0] {a1 : Key} : ValOf otE (.agg (cats [#[.int .i64 n0], kc a1])) ⟨a0, a1⟩ := ⟨by rw [h0.eq]⟩
abbrev z_otE : Ot := ⟨0, key0⟩
instance eo_otE_40 : ElemOf Try.prog 40 otE 40 := ⟨inferInstance⟩
instance ze_otE_40 : ZeroE Try.prog 40 otE z_otE := ZeroE.of (show TZ Try.prog 40 _ from tz40) (fun _ => trivial)
instance zv_otE_40 : ZeroVal Try.prog 40 otE z_otE := ⟨zv_of (by kernel_rfl)⟩
instance eqd_otE_40 : EqD Try.prog 40 otE 3 := ⟨fun d w a b => by
  show (Op.equalIn (d + 2 + 1) 40 (.agg _) (.agg _)).run Try.prog w = _
  rw [run_equalIn_struct w (d + 2) 40 _ _ (by kernel_rfl) (by kernel_rfl), show (Try.prog.fieldsOf 40).toList = [{ name := "Value", type := 2, offset := 0, embedded := false, tag := "", pkgPath := "", byteOffset := 0 }, { name := "Lock", type := 26, offset := 1, embedded := false, tag := "", pkgPath := "", byteOffset := 8 }] from by kernel_rfl]
  refine ((eqFields_cons (g := { name := "Value", type := 2, offset := 0, embedded := false, tag := "", pkgPath := "", byteOffset := 0 }) (b := decide (a.val = b.val)) (by kernel_rfl) (run_field (inferInstance : TI Try.prog 2 _ _ _) inferInstance w) (run_field (inferInstance : TI Try.prog 2 _ _ _) inferInstance w) ((run_equalIn_int w (d + 1) 2 _ _ _ _ tu2.h).trans (by rw [i64_beq])) (eqFields_cons (g := { name := "Lock", type := 26, offset := 1, embedded := false, tag := "", pkgPath := "", byteOffset := 8 }) (b := decide (a.lock = b.lock)) (by kernel_rfl) (run_field (inferInstance : TI Try.prog 26 _ _ _) inferInstance w) (run_field (inferInstance : TI Try.prog 26 _ _ _) inferInstance w) (run_equalIn_key (d + 0) w a.lock b.lock) (eqFields_nil)))).trans ?_
  congr 1; obtain ⟨a0, a1⟩ := a; obtain ⟨b0, b1⟩ := b; simp [Bool.and_assoc, Bool.decide_and], by kernel_rfl⟩
structure Tx where
  exp : UInt32
  ins : Hd Pt
  outs : Hd Ot
  anchor : Key
  nulls : Hd Key
  notes : Hd Key
  bal : Int64
  deriving Inhabited
@[reducible] def txE : Elem Tx := { sz := 38, agg := true, val := fun x => .agg (cats [#[.int .u32 (x.exp.toNat : Int)], #[.slice x.ins.A x.ins.n x.ins.c], #[.slice x.outs.A x.outs.n x.outs.c], kc x.anchor, #[.slice x.nulls.A x.nulls.n x.nulls.c], #[.slice x.notes.A x.notes.n x.notes.c], #[.int .i64 x.bal.toInt]]), ok := fun s x => SL s x.ins.A x.ins.n x.ins.c ptE x.ins.l ∧ SL s x.outs.A x.outs.n x.outs.c otE x.outs.l ∧ SL s x.nulls.A x.nulls.n x.nulls.c keyE x.nulls.l ∧ SL s x.notes.A x.notes.n x.notes.c keyE x.notes.l, nx := fun s s2 X x n h => ⟨SL.nx n h.1, SL.nx n h.2.1, SL.nx n h.2.2.1, SL.nx n h.2.2.2⟩, wk := fun s s2 x hw hm h => ⟨SL.wk_ hw hm h.1, SL.wk_ hw hm h.2.1, SL.wk_ hw hm h.2.2.1, SL.wk_ hw hm h.2.2.2⟩, pos := by omega, size := fun x => (by have h : CSz (cats [#[.int .u32 (x.exp.toNat : Int)], #[.slice x.ins.A x.ins.n x.ins.c], #[.slice x.outs.A x.outs.n x.outs.c], kc x.anchor, #[.slice x.nulls.A x.nulls.n x.nulls.c], #[.slice x.notes.A x.notes.n x.notes.c], #[.int .i64 x.bal.toInt]]) 38 := inferInstance; exact h.size), one := fun x => (by have h : CSz (cats [#[.int .u32 (x.exp.toNat : Int)], #[.slice x.ins.A x.ins.n x.ins.c], #[.slice x.outs.A x.outs.n x.outs.c], kc x.anchor, #[.slice x.nulls.A x.nulls.n x.nulls.c], #[.slice x.notes.A x.notes.n x.notes.c], #[.int .i64 x.bal.toInt]]) 38 := inferInstance; exact h.one), shapeA := fun _ _ => rfl, shape1 := nofun }
instance se_txE : SmallE txE := ⟨by decide⟩
instance fv_txE : FlatV txE (fun x => .agg (cats [#[.int .u32 (x.exp.toNat : Int)], #[.slice x.ins.A x.ins.n x.ins.c], #[.slice x.outs.A x.outs.n x.outs.c], kc x.anchor, #[.slice x.nulls.A x.nulls.n x.nulls.c], #[.slice x.notes.A x.notes.n x.notes.c], #[.int .i64 x.bal.toInt]])) := ⟨rfl⟩
instance (priority := high) ev_txE {s : St} {x : Tx} [h : OkE s txE x] : EncV s txE (.agg (cats [#[.int .u32 (x.exp.toNat : Int)], #[.slice x.ins.A x.ins.n x.ins.c], #[.slice x.outs.A x.outs.n x.outs.c], kc x.anchor, #[.slice x.nulls.A x.nulls.n x.nulls.c], #[.slice x.notes.A x.notes.n x.notes.c], #[.int .i64 x.bal.toInt]])) x := ⟨rfl, h.h⟩
instance (priority := low) ew_txE {s : St} {n0 : Int} {a0 : UInt32} [h0 : U32 n0 a0] {A1 : Option Addr} {n1 c1 : Nat} {l1 : List Pt} [h1 : SLq s A1 n1 c1 ptE l1] {A2 : Option Addr} {n2 c2 : Nat} {l2 : List Ot} [h2 : SLq s A2 n2 c2 otE l2] {a3 : Key} {A4 : Option Addr} {n4 c4 : Nat} {l4 : List Key} [h4 : SLq s A4 n4 c4 keyE l4] {A5 : Option Addr} {n5 c5 : Nat} {l5 : List Key} [h5 : SLq s A5 n5 c5 keyE l5] {n6 : Int} {a6 : Int64} [h6 : I64 n6 a6] : EncV s txE (.agg (cats [#[.int .u32 n0], #[.slice A1 n1 c1], #[.slice A2 n2 c2], kc a3, #[.slice A4 n4 c4], #[.slice A5 n5 c5], #[.int .i64 n6]])) ⟨a0, ⟨A1, n1, c1, l1⟩, ⟨A2, n2, c2, l2⟩, a3, ⟨A4, n4, c4, l4⟩, ⟨A5, n5, c5, l5⟩, a6⟩ := ⟨by rw [h0.eq, h6.eq], ⟨h1.sl, h2.sl, h4.sl, h5.sl⟩⟩
instance sl_txE_0 {s : St} {x : Tx} [h : OkE s txE x] : SL s x.ins.A x.ins.n x.ins.c ptE x.ins.l := h.h.1
instance sl_txE_1 {s : St} {x : Tx} [h : OkE s txE x] : SL s x.outs.A x.outs.n x.outs.c otE x.outs.l := h.h.2.1
instance sl_txE_2 {s : St} {x : Tx} [h : OkE s txE x] : SL s x.nulls.A x.nulls.n x.nulls.c keyE x.nulls.l := h.h.2.2.1
instance sl_txE_3 {s : St} {x : Tx} [h : OkE s txE x] : SL s x.notes.A x.notes.n x.notes.c keyE x.notes.l := h.h.2.2.2
abbrev z_txE : Tx := ⟨0, ⟨none, 0, 0, []⟩, ⟨none, 0, 0, []⟩, key0, ⟨none, 0, 0, []⟩, ⟨none, 0, 0, []⟩, 0⟩
instance eo_txE_29 : ElemOf Try.prog 29 txE 144 := ⟨inferInstance⟩
instance ze_txE_29 : ZeroE Try.prog 29 txE z_txE := ZeroE.of (show TZ Try.prog 29 _ from tz29) (fun _ => ⟨SL.nil_, SL.nil_, SL.nil_, SL.nil_⟩)
instance zv_txE_29 : ZeroVal Try.prog 29 txE z_txE := ⟨zv_of (by kernel_rfl)⟩
end Go.Proofs.Ythdhnkgnbdociaa
