/- Made by gen_typ.py: what each type of the translation is, and which functions have a body. No condition. -/
import Derived.KernelRfl
import Derived.Test.YtpnbfohdfffolaaOps
set_option linter.all false
set_option maxRecDepth 100000
namespace Go.Proofs.Ytpnbfohdfffolaa
open Go Go.RowKit
theorem TI.mk_ {P : Program} {t : TypeId} {d : TypeDesc} {agg : Bool} {size bytes : Nat} (hd : P.underlying t = some d) (ha : aggD d = agg) (hi : (P.info? t).map (fun i => (i.size, i.bytes)) = some (size, bytes)) : TI P t agg size bytes := by
  cases h : P.info? t with
  | none => rw [h] at hi; cases hi
  | some i =>
    rw [h] at hi
    simp only [Option.map_some, Option.some.injEq, Prod.mk.injEq] at hi
    exact ⟨d, i, hd, ha, h, hi.1, hi.2⟩
theorem TZ.mk_ {P : Program} {t : TypeId} {cs : Array Value} (hi : (P.info? t).bind (fun i => i.zero.map (·.cells)) = some cs) : TZ P t cs := by
  cases h : P.info? t with
  | none => rw [h] at hi; cases hi
  | some i =>
    rw [h] at hi
    simp only [Option.bind_some, Option.map_eq_some_iff] at hi
    obtain ⟨z, hz, hc⟩ := hi
    exact ⟨i, z, h, hz, hc⟩
instance tu0 : U Try.prog 0 (TypeDesc.tuple #[]) := ⟨Try.underlying0⟩
instance tu1 : U Try.prog 1 (TypeDesc.func #[] #[] false) := ⟨Try.underlying1⟩
instance ti1 : TI Try.prog 1 false 1 8 := TI.mk_ Try.underlying1 rfl (by kernel_rfl)
instance tz1 : TZ Try.prog 1 #[.nilFunc] := TZ.mk_ (by kernel_rfl)
instance tu2 : U Try.prog 2 (TypeDesc.int IntKind.i64) := ⟨Try.underlying2⟩
instance ti2 : TI Try.prog 2 false 1 8 := TI.mk_ Try.underlying2 rfl (by kernel_rfl)
instance tz2 : TZ Try.prog 2 #[.int .i64 0] := TZ.mk_ (by kernel_rfl)
instance tu3 : U Try.prog 3 (TypeDesc.int IntKind.i64) := ⟨Try.underlying3⟩
instance ti3 : TI Try.prog 3 false 1 8 := TI.mk_ Try.underlying3 rfl (by kernel_rfl)
instance tz3 : TZ Try.prog 3 #[.int .i64 0] := TZ.mk_ (by kernel_rfl)
instance tu4 : U Try.prog 4 (TypeDesc.bool) := ⟨Try.underlying4⟩
instance ti4 : TI Try.prog 4 false 1 1 := TI.mk_ Try.underlying4 rfl (by kernel_rfl)
instance tz4 : TZ Try.prog 4 #[.bool false] := TZ.mk_ (by kernel_rfl)
instance tu5 : U Try.prog 5 (TypeDesc.int IntKind.u8) := ⟨Try.underlying5⟩
instance ti5 : TI Try.prog 5 false 1 1 := TI.mk_ Try.underlying5 rfl (by kernel_rfl)
instance tz5 : TZ Try.prog 5 #[.int .u8 0] := TZ.mk_ (by kernel_rfl)
instance tu6 : U Try.prog 6 (TypeDesc.int IntKind.u8) := ⟨Try.underlying6⟩
instance ti6 : TI Try.prog 6 false 1 1 := TI.mk_ Try.underlying6 rfl (by kernel_rfl)
instance tz6 : TZ Try.prog 6 #[.int .u8 0] := TZ.mk_ (by kernel_rfl)
instance tu7 : U Try.prog 7 (TypeDesc.struct #[{ name := "x", type := 2, offset := 0, embedded := false, tag := "", pkgPath := "runtime", byteOffset := 0 }, { name := "y", type := 3, offset := 1, embedded := false, tag := "", pkgPath := "runtime", byteOffset := 8 }, { name := "signed", type := 4, offset := 2, embedded := false, tag := "", pkgPath := "runtime", byteOffset := 16 }, { name := "code", type := 6, offset := 3, embedded := false, tag := "", pkgPath := "runtime", byteOffset := 17 }]) := ⟨Try.underlying7⟩
instance ti7 : TI Try.prog 7 true 4 24 := TI.mk_ Try.underlying7 rfl (by kernel_rfl)
instance tu8 : U Try.prog 8 (TypeDesc.struct #[{ name := "x", type := 2, offset := 0, embedded := false, tag := "", pkgPath := "runtime", byteOffset := 0 }, { name := "y", type := 3, offset := 1, embedded := false, tag := "", pkgPath := "runtime", byteOffset := 8 }, { name := "signed", type := 4, offset := 2, embedded := false, tag := "", pkgPath := "runtime", byteOffset := 16 }, { name := "code", type := 6, offset := 3, embedded := false, tag := "", pkgPath := "runtime", byteOffset := 17 }]) := ⟨Try.underlying8⟩
instance ti8 : TI Try.prog 8 true 4 24 := TI.mk_ Try.underlying8 rfl (by kernel_rfl)
instance tu9 : U Try.prog 9 (TypeDesc.string) := ⟨Try.underlying9⟩
instance ti9 : TI Try.prog 9 false 1 16 := TI.mk_ Try.underlying9 rfl (by kernel_rfl)
instance tz9 : TZ Try.prog 9 #[.string .empty] := TZ.mk_ (by kernel_rfl)
instance tu10 : U Try.prog 10 (TypeDesc.string) := ⟨Try.underlying10⟩
instance ti10 : TI Try.prog 10 false 1 16 := TI.mk_ Try.underlying10 rfl (by kernel_rfl)
instance tz10 : TZ Try.prog 10 #[.string .empty] := TZ.mk_ (by kernel_rfl)
instance tu11 : U Try.prog 11 (TypeDesc.string) := ⟨Try.underlying11⟩
instance ti11 : TI Try.prog 11 false 1 16 := TI.mk_ Try.underlying11 rfl (by kernel_rfl)
instance tz11 : TZ Try.prog 11 #[.string .empty] := TZ.mk_ (by kernel_rfl)
instance tu12 : U Try.prog 12 (TypeDesc.int IntKind.u64) := ⟨Try.underlying12⟩
instance ti12 : TI Try.prog 12 false 1 8 := TI.mk_ Try.underlying12 rfl (by kernel_rfl)
instance tz12 : TZ Try.prog 12 #[.int .u64 0] := TZ.mk_ (by kernel_rfl)
instance tu13 : U Try.prog 13 (TypeDesc.struct #[{ name := "msg", type := 9, offset := 0, embedded := false, tag := "", pkgPath := "runtime", byteOffset := 0 }, { name := "addr", type := 12, offset := 1, embedded := false, tag := "", pkgPath := "runtime", byteOffset := 16 }]) := ⟨Try.underlying13⟩
instance ti13 : TI Try.prog 13 true 2 24 := TI.mk_ Try.underlying13 rfl (by kernel_rfl)
instance tu14 : U Try.prog 14 (TypeDesc.struct #[{ name := "msg", type := 9, offset := 0, embedded := false, tag := "", pkgPath := "runtime", byteOffset := 0 }, { name := "addr", type := 12, offset := 1, embedded := false, tag := "", pkgPath := "runtime", byteOffset := 16 }]) := ⟨Try.underlying14⟩
instance ti14 : TI Try.prog 14 true 2 24 := TI.mk_ Try.underlying14 rfl (by kernel_rfl)
instance tu15 : U Try.prog 15 (TypeDesc.pointer 96) := ⟨Try.underlying15⟩
instance ti15 : TI Try.prog 15 false 1 8 := TI.mk_ Try.underlying15 rfl (by kernel_rfl)
instance tz15 : TZ Try.prog 15 #[.pointer none] := TZ.mk_ (by kernel_rfl)
instance tu16 : U Try.prog 16 (TypeDesc.pointer 99) := ⟨Try.underlying16⟩
instance ti16 : TI Try.prog 16 false 1 8 := TI.mk_ Try.underlying16 rfl (by kernel_rfl)
instance tz16 : TZ Try.prog 16 #[.pointer none] := TZ.mk_ (by kernel_rfl)
instance tu17 : U Try.prog 17 (TypeDesc.pointer 108) := ⟨Try.underlying17⟩
instance ti17 : TI Try.prog 17 false 1 8 := TI.mk_ Try.underlying17 rfl (by kernel_rfl)
instance tz17 : TZ Try.prog 17 #[.pointer none] := TZ.mk_ (by kernel_rfl)
instance tu18 : U Try.prog 18 (TypeDesc.struct #[{ name := "typ", type := 17, offset := 0, embedded := false, tag := "", pkgPath := "internal/runtime/maps", byteOffset := 0 }]) := ⟨Try.underlying18⟩
instance ti18 : TI Try.prog 18 true 1 8 := TI.mk_ Try.underlying18 rfl (by kernel_rfl)
instance tu19 : U Try.prog 19 (TypeDesc.struct #[{ name := "typ", type := 17, offset := 0, embedded := false, tag := "", pkgPath := "internal/runtime/maps", byteOffset := 0 }]) := ⟨Try.underlying19⟩
instance ti19 : TI Try.prog 19 true 1 8 := TI.mk_ Try.underlying19 rfl (by kernel_rfl)
instance tu20 : U Try.prog 20 (TypeDesc.interface #[]) := ⟨Try.underlying20⟩
instance ti20 : TI Try.prog 20 false 1 16 := TI.mk_ Try.underlying20 rfl (by kernel_rfl)
instance tz20 : TZ Try.prog 20 #[.nilIface] := TZ.mk_ (by kernel_rfl)
instance tu21 : U Try.prog 21 (TypeDesc.int IntKind.i32) := ⟨Try.underlying21⟩
instance ti21 : TI Try.prog 21 false 1 4 := TI.mk_ Try.underlying21 rfl (by kernel_rfl)
instance tz21 : TZ Try.prog 21 #[.int .i32 0] := TZ.mk_ (by kernel_rfl)
instance tu22 : U Try.prog 22 (TypeDesc.array 32 5) := ⟨Try.underlying22⟩
instance ti22 : TI Try.prog 22 true 32 32 := TI.mk_ Try.underlying22 rfl (by kernel_rfl)
instance tu23 : U Try.prog 23 (TypeDesc.array 32 5) := ⟨Try.underlying23⟩
instance ti23 : TI Try.prog 23 true 32 32 := TI.mk_ Try.underlying23 rfl (by kernel_rfl)
instance tu24 : U Try.prog 24 (TypeDesc.int IntKind.u16) := ⟨Try.underlying24⟩
instance ti24 : TI Try.prog 24 false 1 2 := TI.mk_ Try.underlying24 rfl (by kernel_rfl)
instance tz24 : TZ Try.prog 24 #[.int .u16 0] := TZ.mk_ (by kernel_rfl)
instance tu25 : U Try.prog 25 (TypeDesc.struct #[{ name := "Value", type := 2, offset := 0, embedded := false, tag := "", pkgPath := "", byteOffset := 0 }, { name := "Lock", type := 23, offset := 1, embedded := false, tag := "", pkgPath := "", byteOffset := 8 }]) := ⟨Try.underlying25⟩
instance ti25 : TI Try.prog 25 true 33 40 := TI.mk_ Try.underlying25 rfl (by kernel_rfl)
instance tu26 : U Try.prog 26 (TypeDesc.struct #[{ name := "Value", type := 2, offset := 0, embedded := false, tag := "", pkgPath := "", byteOffset := 0 }, { name := "Lock", type := 23, offset := 1, embedded := false, tag := "", pkgPath := "", byteOffset := 8 }]) := ⟨Try.underlying26⟩
instance ti26 : TI Try.prog 26 true 33 40 := TI.mk_ Try.underlying26 rfl (by kernel_rfl)
instance tu27 : U Try.prog 27 (TypeDesc.slice 26) := ⟨Try.underlying27⟩
instance ti27 : TI Try.prog 27 false 1 24 := TI.mk_ Try.underlying27 rfl (by kernel_rfl)
instance tz27 : TZ Try.prog 27 #[.slice none 0 0] := TZ.mk_ (by kernel_rfl)
instance tu28 : U Try.prog 28 (TypeDesc.int IntKind.u32) := ⟨Try.underlying28⟩
instance ti28 : TI Try.prog 28 false 1 4 := TI.mk_ Try.underlying28 rfl (by kernel_rfl)
instance tz28 : TZ Try.prog 28 #[.int .u32 0] := TZ.mk_ (by kernel_rfl)
instance tu29 : U Try.prog 29 (TypeDesc.slice 34) := ⟨Try.underlying29⟩
instance ti29 : TI Try.prog 29 false 1 24 := TI.mk_ Try.underlying29 rfl (by kernel_rfl)
instance tz29 : TZ Try.prog 29 #[.slice none 0 0] := TZ.mk_ (by kernel_rfl)
instance tu30 : U Try.prog 30 (TypeDesc.slice 23) := ⟨Try.underlying30⟩
instance ti30 : TI Try.prog 30 false 1 24 := TI.mk_ Try.underlying30 rfl (by kernel_rfl)
instance tz30 : TZ Try.prog 30 #[.slice none 0 0] := TZ.mk_ (by kernel_rfl)
instance tu31 : U Try.prog 31 (TypeDesc.struct #[{ name := "Expiry", type := 28, offset := 0, embedded := false, tag := "", pkgPath := "", byteOffset := 0 }, { name := "Ins", type := 29, offset := 1, embedded := false, tag := "", pkgPath := "", byteOffset := 8 }, { name := "Outs", type := 27, offset := 2, embedded := false, tag := "", pkgPath := "", byteOffset := 32 }, { name := "Anchor", type := 23, offset := 3, embedded := false, tag := "", pkgPath := "", byteOffset := 56 }, { name := "Nulls", type := 30, offset := 35, embedded := false, tag := "", pkgPath := "", byteOffset := 88 }, { name := "Notes", type := 30, offset := 36, embedded := false, tag := "", pkgPath := "", byteOffset := 112 }, { name := "Balance", type := 2, offset := 37, embedded := false, tag := "", pkgPath := "", byteOffset := 136 }]) := ⟨Try.underlying31⟩
instance ti31 : TI Try.prog 31 true 38 144 := TI.mk_ Try.underlying31 rfl (by kernel_rfl)
instance tu32 : U Try.prog 32 (TypeDesc.struct #[{ name := "Expiry", type := 28, offset := 0, embedded := false, tag := "", pkgPath := "", byteOffset := 0 }, { name := "Ins", type := 29, offset := 1, embedded := false, tag := "", pkgPath := "", byteOffset := 8 }, { name := "Outs", type := 27, offset := 2, embedded := false, tag := "", pkgPath := "", byteOffset := 32 }, { name := "Anchor", type := 23, offset := 3, embedded := false, tag := "", pkgPath := "", byteOffset := 56 }, { name := "Nulls", type := 30, offset := 35, embedded := false, tag := "", pkgPath := "", byteOffset := 88 }, { name := "Notes", type := 30, offset := 36, embedded := false, tag := "", pkgPath := "", byteOffset := 112 }, { name := "Balance", type := 2, offset := 37, embedded := false, tag := "", pkgPath := "", byteOffset := 136 }]) := ⟨Try.underlying32⟩
instance ti32 : TI Try.prog 32 true 38 144 := TI.mk_ Try.underlying32 rfl (by kernel_rfl)
instance tu33 : U Try.prog 33 (TypeDesc.struct #[{ name := "Tx", type := 23, offset := 0, embedded := false, tag := "", pkgPath := "", byteOffset := 0 }, { name := "Index", type := 28, offset := 32, embedded := false, tag := "", pkgPath := "", byteOffset := 32 }]) := ⟨Try.underlying33⟩
instance ti33 : TI Try.prog 33 true 33 36 := TI.mk_ Try.underlying33 rfl (by kernel_rfl)
instance tu34 : U Try.prog 34 (TypeDesc.struct #[{ name := "Tx", type := 23, offset := 0, embedded := false, tag := "", pkgPath := "", byteOffset := 0 }, { name := "Index", type := 28, offset := 32, embedded := false, tag := "", pkgPath := "", byteOffset := 32 }]) := ⟨Try.underlying34⟩
instance ti34 : TI Try.prog 34 true 33 36 := TI.mk_ Try.underlying34 rfl (by kernel_rfl)
instance tu35 : U Try.prog 35 (TypeDesc.slice 40) := ⟨Try.underlying35⟩
instance ti35 : TI Try.prog 35 false 1 24 := TI.mk_ Try.underlying35 rfl (by kernel_rfl)
instance tz35 : TZ Try.prog 35 #[.slice none 0 0] := TZ.mk_ (by kernel_rfl)
instance tu36 : U Try.prog 36 (TypeDesc.int IntKind.i64) := ⟨Try.underlying36⟩
instance ti36 : TI Try.prog 36 false 1 8 := TI.mk_ Try.underlying36 rfl (by kernel_rfl)
instance tz36 : TZ Try.prog 36 #[.int .i64 0] := TZ.mk_ (by kernel_rfl)
instance tu37 : U Try.prog 37 (TypeDesc.tuple #[35, 35, 36]) := ⟨Try.underlying37⟩
instance tu38 : U Try.prog 38 (TypeDesc.func #[35, 32, 23, 28] #[35, 35, 36] false) := ⟨Try.underlying38⟩
instance ti38 : TI Try.prog 38 false 1 8 := TI.mk_ Try.underlying38 rfl (by kernel_rfl)
instance tz38 : TZ Try.prog 38 #[.nilFunc] := TZ.mk_ (by kernel_rfl)
instance tu39 : U Try.prog 39 (TypeDesc.struct #[{ name := "At", type := 34, offset := 0, embedded := false, tag := "", pkgPath := "", byteOffset := 0 }, { name := "Out", type := 26, offset := 33, embedded := false, tag := "", pkgPath := "", byteOffset := 40 }, { name := "Height", type := 28, offset := 66, embedded := false, tag := "", pkgPath := "", byteOffset := 80 }, { name := "Base", type := 4, offset := 67, embedded := false, tag := "", pkgPath := "", byteOffset := 84 }]) := ⟨Try.underlying39⟩
instance ti39 : TI Try.prog 39 true 68 88 := TI.mk_ Try.underlying39 rfl (by kernel_rfl)
instance tu40 : U Try.prog 40 (TypeDesc.struct #[{ name := "At", type := 34, offset := 0, embedded := false, tag := "", pkgPath := "", byteOffset := 0 }, { name := "Out", type := 26, offset := 33, embedded := false, tag := "", pkgPath := "", byteOffset := 40 }, { name := "Height", type := 28, offset := 66, embedded := false, tag := "", pkgPath := "", byteOffset := 80 }, { name := "Base", type := 4, offset := 67, embedded := false, tag := "", pkgPath := "", byteOffset := 84 }]) := ⟨Try.underlying40⟩
instance ti40 : TI Try.prog 40 true 68 88 := TI.mk_ Try.underlying40 rfl (by kernel_rfl)
instance tu41 : U Try.prog 41 (TypeDesc.func #[] #[4] false) := ⟨Try.underlying41⟩
instance ti41 : TI Try.prog 41 false 1 8 := TI.mk_ Try.underlying41 rfl (by kernel_rfl)
instance tz41 : TZ Try.prog 41 #[.nilFunc] := TZ.mk_ (by kernel_rfl)
instance tu42 : U Try.prog 42 (TypeDesc.func #[40, 28] #[4] false) := ⟨Try.underlying42⟩
instance ti42 : TI Try.prog 42 false 1 8 := TI.mk_ Try.underlying42 rfl (by kernel_rfl)
instance tz42 : TZ Try.prog 42 #[.nilFunc] := TZ.mk_ (by kernel_rfl)
instance tu43 : U Try.prog 43 (TypeDesc.func #[23, 23, 24, 5, 4] #[4] false) := ⟨Try.underlying43⟩
instance ti43 : TI Try.prog 43 false 1 8 := TI.mk_ Try.underlying43 rfl (by kernel_rfl)
instance tz43 : TZ Try.prog 43 #[.nilFunc] := TZ.mk_ (by kernel_rfl)
instance tu44 : U Try.prog 44 (TypeDesc.func #[34, 34] #[4] false) := ⟨Try.underlying44⟩
instance ti44 : TI Try.prog 44 false 1 8 := TI.mk_ Try.underlying44 rfl (by kernel_rfl)
instance tz44 : TZ Try.prog 44 #[.nilFunc] := TZ.mk_ (by kernel_rfl)
instance tu45 : U Try.prog 45 (TypeDesc.func #[34, 34, 34] #[4] false) := ⟨Try.underlying45⟩
instance ti45 : TI Try.prog 45 false 1 8 := TI.mk_ Try.underlying45 rfl (by kernel_rfl)
instance tz45 : TZ Try.prog 45 #[.nilFunc] := TZ.mk_ (by kernel_rfl)
instance tu46 : U Try.prog 46 (TypeDesc.slice 24) := ⟨Try.underlying46⟩
instance ti46 : TI Try.prog 46 false 1 24 := TI.mk_ Try.underlying46 rfl (by kernel_rfl)
instance tz46 : TZ Try.prog 46 #[.slice none 0 0] := TZ.mk_ (by kernel_rfl)
instance tu47 : U Try.prog 47 (TypeDesc.tuple #[40, 4]) := ⟨Try.underlying47⟩
instance tu48 : U Try.prog 48 (TypeDesc.func #[35, 34] #[40, 4] false) := ⟨Try.underlying48⟩
instance ti48 : TI Try.prog 48 false 1 8 := TI.mk_ Try.underlying48 rfl (by kernel_rfl)
instance tz48 : TZ Try.prog 48 #[.nilFunc] := TZ.mk_ (by kernel_rfl)
instance tu49 : U Try.prog 49 (TypeDesc.func #[23, 23, 23, 46] #[4] false) := ⟨Try.underlying49⟩
instance ti49 : TI Try.prog 49 false 1 8 := TI.mk_ Try.underlying49 rfl (by kernel_rfl)
instance tz49 : TZ Try.prog 49 #[.nilFunc] := TZ.mk_ (by kernel_rfl)
instance tu50 : U Try.prog 50 (TypeDesc.slice 32) := ⟨Try.underlying50⟩
instance ti50 : TI Try.prog 50 false 1 24 := TI.mk_ Try.underlying50 rfl (by kernel_rfl)
instance tz50 : TZ Try.prog 50 #[.slice none 0 0] := TZ.mk_ (by kernel_rfl)
instance tu51 : U Try.prog 51 (TypeDesc.func #[35, 32] #[4] false) := ⟨Try.underlying51⟩
instance ti51 : TI Try.prog 51 false 1 8 := TI.mk_ Try.underlying51 rfl (by kernel_rfl)
instance tz51 : TZ Try.prog 51 #[.nilFunc] := TZ.mk_ (by kernel_rfl)
instance tu52 : U Try.prog 52 (TypeDesc.func #[50, 30, 32, 23, 34] #[4] false) := ⟨Try.underlying52⟩
instance ti52 : TI Try.prog 52 false 1 8 := TI.mk_ Try.underlying52 rfl (by kernel_rfl)
instance tz52 : TZ Try.prog 52 #[.nilFunc] := TZ.mk_ (by kernel_rfl)
instance tu53 : U Try.prog 53 (TypeDesc.slice 5) := ⟨Try.underlying53⟩
instance ti53 : TI Try.prog 53 false 1 24 := TI.mk_ Try.underlying53 rfl (by kernel_rfl)
instance tz53 : TZ Try.prog 53 #[.slice none 0 0] := TZ.mk_ (by kernel_rfl)
instance tu54 : U Try.prog 54 (TypeDesc.tuple #[35, 36]) := ⟨Try.underlying54⟩
instance tu55 : U Try.prog 55 (TypeDesc.func #[35, 32, 23, 35] #[35, 36] false) := ⟨Try.underlying55⟩
instance ti55 : TI Try.prog 55 false 1 8 := TI.mk_ Try.underlying55 rfl (by kernel_rfl)
instance tz55 : TZ Try.prog 55 #[.nilFunc] := TZ.mk_ (by kernel_rfl)
instance tu56 : U Try.prog 56 (TypeDesc.func #[57, 57] #[4] false) := ⟨Try.underlying56⟩
instance ti56 : TI Try.prog 56 false 1 8 := TI.mk_ Try.underlying56 rfl (by kernel_rfl)
instance tz56 : TZ Try.prog 56 #[.nilFunc] := TZ.mk_ (by kernel_rfl)
instance tu57 : U Try.prog 57 (TypeDesc.slice 65) := ⟨Try.underlying57⟩
instance ti57 : TI Try.prog 57 false 1 24 := TI.mk_ Try.underlying57 rfl (by kernel_rfl)
instance tz57 : TZ Try.prog 57 #[.slice none 0 0] := TZ.mk_ (by kernel_rfl)
instance tu58 : U Try.prog 58 (TypeDesc.func #[35] #[57] false) := ⟨Try.underlying58⟩
instance ti58 : TI Try.prog 58 false 1 8 := TI.mk_ Try.underlying58 rfl (by kernel_rfl)
instance tz58 : TZ Try.prog 58 #[.nilFunc] := TZ.mk_ (by kernel_rfl)
instance tu59 : U Try.prog 59 (TypeDesc.func #[35] #[4] false) := ⟨Try.underlying59⟩
instance ti59 : TI Try.prog 59 false 1 8 := TI.mk_ Try.underlying59 rfl (by kernel_rfl)
instance tz59 : TZ Try.prog 59 #[.nilFunc] := TZ.mk_ (by kernel_rfl)
instance tu60 : U Try.prog 60 (TypeDesc.func #[50, 30, 53] #[4] false) := ⟨Try.underlying60⟩
instance ti60 : TI Try.prog 60 false 1 8 := TI.mk_ Try.underlying60 rfl (by kernel_rfl)
instance tz60 : TZ Try.prog 60 #[.nilFunc] := TZ.mk_ (by kernel_rfl)
instance tu61 : U Try.prog 61 (TypeDesc.tuple #[57, 57, 36]) := ⟨Try.underlying61⟩
instance tu62 : U Try.prog 62 (TypeDesc.func #[57, 32, 23, 28] #[57, 57, 36] false) := ⟨Try.underlying62⟩
instance ti62 : TI Try.prog 62 false 1 8 := TI.mk_ Try.underlying62 rfl (by kernel_rfl)
instance tz62 : TZ Try.prog 62 #[.nilFunc] := TZ.mk_ (by kernel_rfl)
instance tu63 : U Try.prog 63 (TypeDesc.tuple #[57, 36]) := ⟨Try.underlying63⟩
instance tu64 : U Try.prog 64 (TypeDesc.func #[57, 32, 23, 57] #[57, 36] false) := ⟨Try.underlying64⟩
instance ti64 : TI Try.prog 64 false 1 8 := TI.mk_ Try.underlying64 rfl (by kernel_rfl)
instance tz64 : TZ Try.prog 64 #[.nilFunc] := TZ.mk_ (by kernel_rfl)
instance tu65 : U Try.prog 65 (TypeDesc.struct #[{ name := "At", type := 34, offset := 0, embedded := false, tag := "", pkgPath := "", byteOffset := 0 }, { name := "Out", type := 26, offset := 33, embedded := false, tag := "", pkgPath := "", byteOffset := 40 }, { name := "Height", type := 28, offset := 66, embedded := false, tag := "", pkgPath := "", byteOffset := 80 }, { name := "Base", type := 4, offset := 67, embedded := false, tag := "", pkgPath := "", byteOffset := 84 }]) := ⟨Try.underlying65⟩
instance ti65 : TI Try.prog 65 true 68 88 := TI.mk_ Try.underlying65 rfl (by kernel_rfl)
instance tu66 : U Try.prog 66 (TypeDesc.tuple #[65, 4]) := ⟨Try.underlying66⟩
instance tu67 : U Try.prog 67 (TypeDesc.func #[57, 34] #[65, 4] false) := ⟨Try.underlying67⟩
instance ti67 : TI Try.prog 67 false 1 8 := TI.mk_ Try.underlying67 rfl (by kernel_rfl)
instance tz67 : TZ Try.prog 67 #[.nilFunc] := TZ.mk_ (by kernel_rfl)
instance tu68 : U Try.prog 68 (TypeDesc.func #[65, 28] #[4] false) := ⟨Try.underlying68⟩
instance ti68 : TI Try.prog 68 false 1 8 := TI.mk_ Try.underlying68 rfl (by kernel_rfl)
instance tz68 : TZ Try.prog 68 #[.nilFunc] := TZ.mk_ (by kernel_rfl)
instance tu69 : U Try.prog 69 (TypeDesc.func #[35, 32, 23, 28, 35, 34, 34] #[4] false) := ⟨Try.underlying69⟩
instance ti69 : TI Try.prog 69 false 1 8 := TI.mk_ Try.underlying69 rfl (by kernel_rfl)
instance tz69 : TZ Try.prog 69 #[.nilFunc] := TZ.mk_ (by kernel_rfl)
instance tu70 : U Try.prog 70 (TypeDesc.pointer 78) := ⟨Try.underlying70⟩
instance ti70 : TI Try.prog 70 false 1 8 := TI.mk_ Try.underlying70 rfl (by kernel_rfl)
instance tz70 : TZ Try.prog 70 #[.pointer none] := TZ.mk_ (by kernel_rfl)
instance tu71 : U Try.prog 71 (TypeDesc.func #[35] #[70] false) := ⟨Try.underlying71⟩
instance ti71 : TI Try.prog 71 false 1 8 := TI.mk_ Try.underlying71 rfl (by kernel_rfl)
instance tz71 : TZ Try.prog 71 #[.nilFunc] := TZ.mk_ (by kernel_rfl)
instance tu72 : U Try.prog 72 (TypeDesc.func #[32] #[4] false) := ⟨Try.underlying72⟩
instance ti72 : TI Try.prog 72 false 1 8 := TI.mk_ Try.underlying72 rfl (by kernel_rfl)
instance tz72 : TZ Try.prog 72 #[.nilFunc] := TZ.mk_ (by kernel_rfl)
instance tu73 : U Try.prog 73 (TypeDesc.func #[34, 74] #[40, 4] false) := ⟨Try.underlying73⟩
instance ti73 : TI Try.prog 73 false 1 8 := TI.mk_ Try.underlying73 rfl (by kernel_rfl)
instance tz73 : TZ Try.prog 73 #[.nilFunc] := TZ.mk_ (by kernel_rfl)
instance tu74 : U Try.prog 74 (TypeDesc.func #[40] #[4] false) := ⟨Try.underlying74⟩
instance ti74 : TI Try.prog 74 false 1 8 := TI.mk_ Try.underlying74 rfl (by kernel_rfl)
instance tz74 : TZ Try.prog 74 #[.nilFunc] := TZ.mk_ (by kernel_rfl)
instance tu75 : U Try.prog 75 (TypeDesc.func #[35, 74] #[4] false) := ⟨Try.underlying75⟩
instance ti75 : TI Try.prog 75 false 1 8 := TI.mk_ Try.underlying75 rfl (by kernel_rfl)
instance tz75 : TZ Try.prog 75 #[.nilFunc] := TZ.mk_ (by kernel_rfl)
instance tu76 : U Try.prog 76 (TypeDesc.func #[32, 23, 28] #[35] false) := ⟨Try.underlying76⟩
instance ti76 : TI Try.prog 76 false 1 8 := TI.mk_ Try.underlying76 rfl (by kernel_rfl)
instance tz76 : TZ Try.prog 76 #[.nilFunc] := TZ.mk_ (by kernel_rfl)
instance tu77 : U Try.prog 77 (TypeDesc.struct #[{ name := "l", type := 35, offset := 0, embedded := false, tag := "", pkgPath := "thurible/coins", byteOffset := 0 }]) := ⟨Try.underlying77⟩
instance ti77 : TI Try.prog 77 true 1 24 := TI.mk_ Try.underlying77 rfl (by kernel_rfl)
instance tu78 : U Try.prog 78 (TypeDesc.struct #[{ name := "l", type := 35, offset := 0, embedded := false, tag := "", pkgPath := "thurible/coins", byteOffset := 0 }]) := ⟨Try.underlying78⟩
instance ti78 : TI Try.prog 78 true 1 24 := TI.mk_ Try.underlying78 rfl (by kernel_rfl)
instance tu79 : U Try.prog 79 (TypeDesc.func #[23, 23] #[4] false) := ⟨Try.underlying79⟩
instance ti79 : TI Try.prog 79 false 1 8 := TI.mk_ Try.underlying79 rfl (by kernel_rfl)
instance tz79 : TZ Try.prog 79 #[.nilFunc] := TZ.mk_ (by kernel_rfl)
instance tu80 : U Try.prog 80 (TypeDesc.func #[34] #[3] false) := ⟨Try.underlying80⟩
instance ti80 : TI Try.prog 80 false 1 8 := TI.mk_ Try.underlying80 rfl (by kernel_rfl)
instance tz80 : TZ Try.prog 80 #[.nilFunc] := TZ.mk_ (by kernel_rfl)
instance tu81 : U Try.prog 81 (TypeDesc.func #[35] #[] false) := ⟨Try.underlying81⟩
instance ti81 : TI Try.prog 81 false 1 8 := TI.mk_ Try.underlying81 rfl (by kernel_rfl)
instance tz81 : TZ Try.prog 81 #[.nilFunc] := TZ.mk_ (by kernel_rfl)
instance tu82 : U Try.prog 82 (TypeDesc.func #[35] #[35] false) := ⟨Try.underlying82⟩
instance ti82 : TI Try.prog 82 false 1 8 := TI.mk_ Try.underlying82 rfl (by kernel_rfl)
instance tz82 : TZ Try.prog 82 #[.nilFunc] := TZ.mk_ (by kernel_rfl)
instance tu83 : U Try.prog 83 (TypeDesc.func #[57, 34] #[3] false) := ⟨Try.underlying83⟩
instance ti83 : TI Try.prog 83 false 1 8 := TI.mk_ Try.underlying83 rfl (by kernel_rfl)
instance tz83 : TZ Try.prog 83 #[.nilFunc] := TZ.mk_ (by kernel_rfl)
instance tu84 : U Try.prog 84 (TypeDesc.func #[57, 3] #[57] false) := ⟨Try.underlying84⟩
instance ti84 : TI Try.prog 84 false 1 8 := TI.mk_ Try.underlying84 rfl (by kernel_rfl)
instance tz84 : TZ Try.prog 84 #[.nilFunc] := TZ.mk_ (by kernel_rfl)
instance tu85 : U Try.prog 85 (TypeDesc.func #[57, 65] #[57] false) := ⟨Try.underlying85⟩
instance ti85 : TI Try.prog 85 false 1 8 := TI.mk_ Try.underlying85 rfl (by kernel_rfl)
instance tz85 : TZ Try.prog 85 #[.nilFunc] := TZ.mk_ (by kernel_rfl)
instance tu86 : U Try.prog 86 (TypeDesc.int IntKind.u64) := ⟨Try.underlying86⟩
instance ti86 : TI Try.prog 86 false 1 8 := TI.mk_ Try.underlying86 rfl (by kernel_rfl)
instance tz86 : TZ Try.prog 86 #[.int .u64 0] := TZ.mk_ (by kernel_rfl)
instance tu87 : U Try.prog 87 (TypeDesc.func #[35, 3, 3] #[35] false) := ⟨Try.underlying87⟩
instance ti87 : TI Try.prog 87 false 1 8 := TI.mk_ Try.underlying87 rfl (by kernel_rfl)
instance tz87 : TZ Try.prog 87 #[.nilFunc] := TZ.mk_ (by kernel_rfl)
instance tu88 : U Try.prog 88 (TypeDesc.func #[35, 74] #[3] false) := ⟨Try.underlying88⟩
instance ti88 : TI Try.prog 88 false 1 8 := TI.mk_ Try.underlying88 rfl (by kernel_rfl)
instance tz88 : TZ Try.prog 88 #[.nilFunc] := TZ.mk_ (by kernel_rfl)
instance tu89 : U Try.prog 89 (TypeDesc.func #[35, 3, 35] #[35] true) := ⟨Try.underlying89⟩
instance ti89 : TI Try.prog 89 false 1 8 := TI.mk_ Try.underlying89 rfl (by kernel_rfl)
instance tz89 : TZ Try.prog 89 #[.nilFunc] := TZ.mk_ (by kernel_rfl)
instance tu90 : U Try.prog 90 (TypeDesc.func #[23, 23] #[3] false) := ⟨Try.underlying90⟩
instance ti90 : TI Try.prog 90 false 1 8 := TI.mk_ Try.underlying90 rfl (by kernel_rfl)
instance tz90 : TZ Try.prog 90 #[.nilFunc] := TZ.mk_ (by kernel_rfl)
instance tu91 : U Try.prog 91 (TypeDesc.func #[35, 35] #[4] false) := ⟨Try.underlying91⟩
instance ti91 : TI Try.prog 91 false 1 8 := TI.mk_ Try.underlying91 rfl (by kernel_rfl)
instance tz91 : TZ Try.prog 91 #[.nilFunc] := TZ.mk_ (by kernel_rfl)
instance tu92 : U Try.prog 92 (TypeDesc.func #[35, 3] #[] false) := ⟨Try.underlying92⟩
instance ti92 : TI Try.prog 92 false 1 8 := TI.mk_ Try.underlying92 rfl (by kernel_rfl)
instance tz92 : TZ Try.prog 92 #[.nilFunc] := TZ.mk_ (by kernel_rfl)
instance tu93 : U Try.prog 93 (TypeDesc.func #[53, 53] #[3] false) := ⟨Try.underlying93⟩
instance ti93 : TI Try.prog 93 false 1 8 := TI.mk_ Try.underlying93 rfl (by kernel_rfl)
instance tz93 : TZ Try.prog 93 #[.nilFunc] := TZ.mk_ (by kernel_rfl)
instance tu94 : U Try.prog 94 (TypeDesc.func #[] #[9] false) := ⟨Try.underlying94⟩
instance ti94 : TI Try.prog 94 false 1 8 := TI.mk_ Try.underlying94 rfl (by kernel_rfl)
instance tz94 : TZ Try.prog 94 #[.nilFunc] := TZ.mk_ (by kernel_rfl)
instance tu95 : U Try.prog 95 (TypeDesc.struct #[{ name := "_interface", type := 17, offset := 0, embedded := false, tag := "", pkgPath := "runtime", byteOffset := 0 }, { name := "concrete", type := 17, offset := 1, embedded := false, tag := "", pkgPath := "runtime", byteOffset := 8 }, { name := "asserted", type := 17, offset := 2, embedded := false, tag := "", pkgPath := "runtime", byteOffset := 16 }, { name := "missingMethod", type := 9, offset := 3, embedded := false, tag := "", pkgPath := "runtime", byteOffset := 24 }]) := ⟨Try.underlying95⟩
instance ti95 : TI Try.prog 95 true 4 40 := TI.mk_ Try.underlying95 rfl (by kernel_rfl)
instance tu96 : U Try.prog 96 (TypeDesc.struct #[{ name := "_interface", type := 17, offset := 0, embedded := false, tag := "", pkgPath := "runtime", byteOffset := 0 }, { name := "concrete", type := 17, offset := 1, embedded := false, tag := "", pkgPath := "runtime", byteOffset := 8 }, { name := "asserted", type := 17, offset := 2, embedded := false, tag := "", pkgPath := "runtime", byteOffset := 16 }, { name := "missingMethod", type := 9, offset := 3, embedded := false, tag := "", pkgPath := "runtime", byteOffset := 24 }]) := ⟨Try.underlying96⟩
instance ti96 : TI Try.prog 96 true 4 40 := TI.mk_ Try.underlying96 rfl (by kernel_rfl)
instance tu97 : U Try.prog 97 (TypeDesc.array 0 16) := ⟨Try.underlying97⟩
instance ti97 : TI Try.prog 97 true 0 0 := TI.mk_ Try.underlying97 rfl (by kernel_rfl)
instance tu98 : U Try.prog 98 (TypeDesc.struct #[{ name := "_", type := 97, offset := 0, embedded := false, tag := "", pkgPath := "runtime", byteOffset := 0 }]) := ⟨Try.underlying98⟩
instance ti98 : TI Try.prog 98 true 0 0 := TI.mk_ Try.underlying98 rfl (by kernel_rfl)
instance tu99 : U Try.prog 99 (TypeDesc.struct #[{ name := "_", type := 97, offset := 0, embedded := false, tag := "", pkgPath := "runtime", byteOffset := 0 }]) := ⟨Try.underlying99⟩
instance ti99 : TI Try.prog 99 true 0 0 := TI.mk_ Try.underlying99 rfl (by kernel_rfl)
instance tu100 : U Try.prog 100 (TypeDesc.func #[] #[3] false) := ⟨Try.underlying100⟩
instance ti100 : TI Try.prog 100 false 1 8 := TI.mk_ Try.underlying100 rfl (by kernel_rfl)
instance tz100 : TZ Try.prog 100 #[.nilFunc] := TZ.mk_ (by kernel_rfl)
instance tu101 : U Try.prog 101 (TypeDesc.int IntKind.u8) := ⟨Try.underlying101⟩
instance ti101 : TI Try.prog 101 false 1 1 := TI.mk_ Try.underlying101 rfl (by kernel_rfl)
instance tz101 : TZ Try.prog 101 #[.int .u8 0] := TZ.mk_ (by kernel_rfl)
instance tu102 : U Try.prog 102 (TypeDesc.int IntKind.u8) := ⟨Try.underlying102⟩
instance ti102 : TI Try.prog 102 false 1 1 := TI.mk_ Try.underlying102 rfl (by kernel_rfl)
instance tz102 : TZ Try.prog 102 #[.int .u8 0] := TZ.mk_ (by kernel_rfl)
instance tu103 : U Try.prog 103 (TypeDesc.func #[109, 109] #[4] false) := ⟨Try.underlying103⟩
instance ti103 : TI Try.prog 103 false 1 8 := TI.mk_ Try.underlying103 rfl (by kernel_rfl)
instance tz103 : TZ Try.prog 103 #[.nilFunc] := TZ.mk_ (by kernel_rfl)
instance tu104 : U Try.prog 104 (TypeDesc.pointer 5) := ⟨Try.underlying104⟩
instance ti104 : TI Try.prog 104 false 1 8 := TI.mk_ Try.underlying104 rfl (by kernel_rfl)
instance tz104 : TZ Try.prog 104 #[.pointer none] := TZ.mk_ (by kernel_rfl)
instance tu105 : U Try.prog 105 (TypeDesc.int IntKind.i32) := ⟨Try.underlying105⟩
instance ti105 : TI Try.prog 105 false 1 4 := TI.mk_ Try.underlying105 rfl (by kernel_rfl)
instance tz105 : TZ Try.prog 105 #[.int .i32 0] := TZ.mk_ (by kernel_rfl)
instance tu106 : U Try.prog 106 (TypeDesc.int IntKind.i32) := ⟨Try.underlying106⟩
instance ti106 : TI Try.prog 106 false 1 4 := TI.mk_ Try.underlying106 rfl (by kernel_rfl)
instance tz106 : TZ Try.prog 106 #[.int .i32 0] := TZ.mk_ (by kernel_rfl)
instance tu107 : U Try.prog 107 (TypeDesc.struct #[{ name := "Size_", type := 12, offset := 0, embedded := false, tag := "", pkgPath := "", byteOffset := 0 }, { name := "PtrBytes", type := 12, offset := 1, embedded := false, tag := "", pkgPath := "", byteOffset := 8 }, { name := "Hash", type := 28, offset := 2, embedded := false, tag := "", pkgPath := "", byteOffset := 16 }, { name := "TFlag", type := 101, offset := 3, embedded := false, tag := "", pkgPath := "", byteOffset := 20 }, { name := "Align_", type := 5, offset := 4, embedded := false, tag := "", pkgPath := "", byteOffset := 21 }, { name := "FieldAlign_", type := 5, offset := 5, embedded := false, tag := "", pkgPath := "", byteOffset := 22 }, { name := "Kind_", type := 102, offset := 6, embedded := false, tag := "", pkgPath := "", byteOffset := 23 }, { name := "Equal", type := 103, offset := 7, embedded := false, tag := "", pkgPath := "", byteOffset := 24 }, { name := "GCData", type := 104, offset := 8, embedded := false, tag := "", pkgPath := "", byteOffset := 32 }, { name := "Str", type := 105, offset := 9, embedded := false, tag := "", pkgPath := "", byteOffset := 40 }, { name := "PtrToThis", type := 106, offset := 10, embedded := false, tag := "", pkgPath := "", byteOffset := 44 }]) := ⟨Try.underlying107⟩
instance ti107 : TI Try.prog 107 true 11 48 := TI.mk_ Try.underlying107 rfl (by kernel_rfl)
instance tu108 : U Try.prog 108 (TypeDesc.struct #[{ name := "Size_", type := 12, offset := 0, embedded := false, tag := "", pkgPath := "", byteOffset := 0 }, { name := "PtrBytes", type := 12, offset := 1, embedded := false, tag := "", pkgPath := "", byteOffset := 8 }, { name := "Hash", type := 28, offset := 2, embedded := false, tag := "", pkgPath := "", byteOffset := 16 }, { name := "TFlag", type := 101, offset := 3, embedded := false, tag := "", pkgPath := "", byteOffset := 20 }, { name := "Align_", type := 5, offset := 4, embedded := false, tag := "", pkgPath := "", byteOffset := 21 }, { name := "FieldAlign_", type := 5, offset := 5, embedded := false, tag := "", pkgPath := "", byteOffset := 22 }, { name := "Kind_", type := 102, offset := 6, embedded := false, tag := "", pkgPath := "", byteOffset := 23 }, { name := "Equal", type := 103, offset := 7, embedded := false, tag := "", pkgPath := "", byteOffset := 24 }, { name := "GCData", type := 104, offset := 8, embedded := false, tag := "", pkgPath := "", byteOffset := 32 }, { name := "Str", type := 105, offset := 9, embedded := false, tag := "", pkgPath := "", byteOffset := 40 }, { name := "PtrToThis", type := 106, offset := 10, embedded := false, tag := "", pkgPath := "", byteOffset := 44 }]) := ⟨Try.underlying108⟩
instance ti108 : TI Try.prog 108 true 11 48 := TI.mk_ Try.underlying108 rfl (by kernel_rfl)
instance tu109 : U Try.prog 109 (TypeDesc.unsafePointer) := ⟨Try.underlying109⟩
instance ti109 : TI Try.prog 109 false 1 8 := TI.mk_ Try.underlying109 rfl (by kernel_rfl)
instance fn2 : Fnc Try.prog 2 := Fnc.mk_ Try.func2 (by kernel_rfl) rfl
instance fn3 : Fnc Try.prog 3 := Fnc.mk_ Try.func3 (by kernel_rfl) rfl
instance fn4 : Fnc Try.prog 4 := Fnc.mk_ Try.func4 (by kernel_rfl) rfl
instance fn5 : Fnc Try.prog 5 := Fnc.mk_ Try.func5 (by kernel_rfl) rfl
instance fn6 : Fnc Try.prog 6 := Fnc.mk_ Try.func6 (by kernel_rfl) rfl
instance fn7 : Fnc Try.prog 7 := Fnc.mk_ Try.func7 (by kernel_rfl) rfl
instance fn8 : Fnc Try.prog 8 := Fnc.mk_ Try.func8 (by kernel_rfl) rfl
instance fn9 : Fnc Try.prog 9 := Fnc.mk_ Try.func9 (by kernel_rfl) rfl
instance fn10 : Fnc Try.prog 10 := Fnc.mk_ Try.func10 (by kernel_rfl) rfl
instance fn11 : Fnc Try.prog 11 := Fnc.mk_ Try.func11 (by kernel_rfl) rfl
instance fn12 : Fnc Try.prog 12 := Fnc.mk_ Try.func12 (by kernel_rfl) rfl
instance fn13 : Fnc Try.prog 13 := Fnc.mk_ Try.func13 (by kernel_rfl) rfl
instance fn14 : Fnc Try.prog 14 := Fnc.mk_ Try.func14 (by kernel_rfl) rfl
instance fn15 : Fnc Try.prog 15 := Fnc.mk_ Try.func15 (by kernel_rfl) rfl
instance fn16 : Fnc Try.prog 16 := Fnc.mk_ Try.func16 (by kernel_rfl) rfl
instance fn17 : Fnc Try.prog 17 := Fnc.mk_ Try.func17 (by kernel_rfl) rfl
instance fn18 : Fnc Try.prog 18 := Fnc.mk_ Try.func18 (by kernel_rfl) rfl
instance fn19 : Fnc Try.prog 19 := Fnc.mk_ Try.func19 (by kernel_rfl) rfl
instance fn20 : Fnc Try.prog 20 := Fnc.mk_ Try.func20 (by kernel_rfl) rfl
instance fn21 : Fnc Try.prog 21 := Fnc.mk_ Try.func21 (by kernel_rfl) rfl
instance fn22 : Fnc Try.prog 22 := Fnc.mk_ Try.func22 (by kernel_rfl) rfl
instance fn23 : Fnc Try.prog 23 := Fnc.mk_ Try.func23 (by kernel_rfl) rfl
instance fn24 : Fnc Try.prog 24 := Fnc.mk_ Try.func24 (by kernel_rfl) rfl
instance fn25 : Fnc Try.prog 25 := Fnc.mk_ Try.func25 (by kernel_rfl) rfl
instance fn26 : Fnc Try.prog 26 := Fnc.mk_ Try.func26 (by kernel_rfl) rfl
instance fn27 : Fnc Try.prog 27 := Fnc.mk_ Try.func27 (by kernel_rfl) rfl
instance fn28 : Fnc Try.prog 28 := Fnc.mk_ Try.func28 (by kernel_rfl) rfl
instance fn29 : Fnc Try.prog 29 := Fnc.mk_ Try.func29 (by kernel_rfl) rfl
instance fn30 : Fnc Try.prog 30 := Fnc.mk_ Try.func30 (by kernel_rfl) rfl
instance fn31 : Fnc Try.prog 31 := Fnc.mk_ Try.func31 (by kernel_rfl) rfl
instance fn32 : Fnc Try.prog 32 := Fnc.mk_ Try.func32 (by kernel_rfl) rfl
instance fn33 : Fnc Try.prog 33 := Fnc.mk_ Try.func33 (by kernel_rfl) rfl
instance fn34 : Fnc Try.prog 34 := Fnc.mk_ Try.func34 (by kernel_rfl) rfl
instance fn35 : Fnc Try.prog 35 := Fnc.mk_ Try.func35 (by kernel_rfl) rfl
instance fn36 : Fnc Try.prog 36 := Fnc.mk_ Try.func36 (by kernel_rfl) rfl
instance fn37 : Fnc Try.prog 37 := Fnc.mk_ Try.func37 (by kernel_rfl) rfl
instance fn38 : Fnc Try.prog 38 := Fnc.mk_ Try.func38 (by kernel_rfl) rfl
instance fn39 : Fnc Try.prog 39 := Fnc.mk_ Try.func39 (by kernel_rfl) rfl
instance fn40 : Fnc Try.prog 40 := Fnc.mk_ Try.func40 (by kernel_rfl) rfl
instance fn41 : Fnc Try.prog 41 := Fnc.mk_ Try.func41 (by kernel_rfl) rfl
instance fn42 : Fnc Try.prog 42 := Fnc.mk_ Try.func42 (by kernel_rfl) rfl
instance fn43 : Fnc Try.prog 43 := Fnc.mk_ Try.func43 (by kernel_rfl) rfl
instance fn44 : Fnc Try.prog 44 := Fnc.mk_ Try.func44 (by kernel_rfl) rfl
instance fn45 : Fnc Try.prog 45 := Fnc.mk_ Try.func45 (by kernel_rfl) rfl
instance fn46 : Fnc Try.prog 46 := Fnc.mk_ Try.func46 (by kernel_rfl) rfl
instance fn47 : Fnc Try.prog 47 := Fnc.mk_ Try.func47 (by kernel_rfl) rfl
instance fn49 : Fnc Try.prog 49 := Fnc.mk_ Try.func49 (by kernel_rfl) rfl
instance fn50 : Fnc Try.prog 50 := Fnc.mk_ Try.func50 (by kernel_rfl) rfl
instance fn51 : Fnc Try.prog 51 := Fnc.mk_ Try.func51 (by kernel_rfl) rfl
end Go.Proofs.Ytpnbfohdfffolaa
