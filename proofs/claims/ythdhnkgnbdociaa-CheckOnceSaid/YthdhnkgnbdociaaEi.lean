/- Elements: numbers. No condition. -/
import Derived.Test.YthdhnkgnbdociaaFld
import Derived.Test.YthdhnkgnbdociaaKk
set_option linter.all false
namespace Go.Proofs.Ythdhnkgnbdociaa
open Go Go.RowKit
@[reducible] def u8E : Elem UInt8 := { sz := 1, agg := false, val := fun x => .int .u8 (x.toNat : Int), ok := fun _ _ => True, pos := by omega, size := fun _ => rfl, one := fun x v hv => (by simp [Value.cells] at hv; subst hv; rfl), shapeA := nofun, shape1 := fun _ _ => rfl }
instance se_u8 : SmallE u8E := ⟨by decide⟩
instance eo_u8 : ElemOf Try.prog 5 u8E 1 := ⟨inferInstance⟩
instance fv_u8 : FlatV u8E (fun x => .int .u8 (x.toNat : Int)) := ⟨rfl⟩
instance pl_u8 : Plain u8E := ⟨fun _ _ => trivial⟩
instance (priority := high) vo_u8 {x : UInt8} : ValOf u8E (.int .u8 (x.toNat : Int)) x := ⟨rfl⟩
instance ze_u8 : ZeroE Try.prog 5 u8E 0 := ZeroE.of (TZ.mk_ (by kernel_rfl)) (fun _ => trivial)
@[reducible] def u16E : Elem UInt16 := { sz := 1, agg := false, val := fun x => .int .u16 (x.toNat : Int), ok := fun _ _ => True, pos := by omega, size := fun _ => rfl, one := fun x v hv => (by simp [Value.cells] at hv; subst hv; rfl), shapeA := nofun, shape1 := fun _ _ => rfl }
instance se_u16 : SmallE u16E := ⟨by decide⟩
instance eo_u16 : ElemOf Try.prog 99 u16E 2 := ⟨inferInstance⟩
instance fv_u16 : FlatV u16E (fun x => .int .u16 (x.toNat : Int)) := ⟨rfl⟩
instance pl_u16 : Plain u16E := ⟨fun _ _ => trivial⟩
instance (priority := high) vo_u16 {x : UInt16} : ValOf u16E (.int .u16 (x.toNat : Int)) x := ⟨rfl⟩
instance ze_u16 : ZeroE Try.prog 99 u16E 0 := ZeroE.of (TZ.mk_ (by kernel_rfl)) (fun _ => trivial)
@[reducible] def u32E : Elem UInt32 := { sz := 1, agg := false, val := fun x => .int .u32 (x.toNat : Int), ok := fun _ _ => True, pos := by omega, size := fun _ => rfl, one := fun x v hv => (by simp [Value.cells] at hv; subst hv; rfl), shapeA := nofun, shape1 := fun _ _ => rfl }
instance se_u32 : SmallE u32E := ⟨by decide⟩
instance eo_u32 : ElemOf Try.prog 22 u32E 4 := ⟨inferInstance⟩
instance fv_u32 : FlatV u32E (fun x => .int .u32 (x.toNat : Int)) := ⟨rfl⟩
instance pl_u32 : Plain u32E := ⟨fun _ _ => trivial⟩
instance (priority := high) vo_u32 {x : UInt32} : ValOf u32E (.int .u32 (x.toNat : Int)) x := ⟨rfl⟩
instance ze_u32 : ZeroE Try.prog 22 u32E 0 := ZeroE.of (TZ.mk_ (by kernel_rfl)) (fun _ => trivial)
@[reducible] def i64E : Elem Int64 := { sz := 1, agg := false, val := fun x => .int .i64 x.toInt, ok := fun _ _ => True, pos := by omega, size := fun _ => rfl, one := fun x v hv => (by simp [Value.cells] at hv; subst hv; rfl), shapeA := nofun, shape1 := fun _ _ => rfl }
instance se_i64 : SmallE i64E := ⟨by decide⟩
instance eo_i64 : ElemOf Try.prog 2 i64E 8 := ⟨inferInstance⟩
instance fv_i64 : FlatV i64E (fun x => .int .i64 x.toInt) := ⟨rfl⟩
instance pl_i64 : Plain i64E := ⟨fun _ _ => trivial⟩
instance (priority := high) vo_i64 {x : Int64} : ValOf i64E (.int .i64 x.toInt) x := ⟨rfl⟩
instance ze_i64 : ZeroE Try.prog 2 i64E 0 := ZeroE.of (TZ.mk_ (by kernel_rfl)) (fun _ => trivial)
end Go.Proofs.Ythdhnkgnbdociaa
