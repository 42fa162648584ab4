/- Texts of this claim, merged: Typ, El, Sg, Rn, Fld, Mp, Kk, Ei, Ss, Sd, Sh, R1, R2, Ec, SlPt, Mq, Tb. No condition. -/
import Derived.KernelRfl
import Derived.ChangeKeysEq
import Derived.Laws.StructEq
import Derived.Laws.Concat
import Derived.Laws.BytesArg
import Derived.Laws.Strings
import Derived.Lib.AppendStr
import Derived.Lib.Builder
import Derived.Lib.UnsafeStr
import Derived.Laws.Shifts
import Derived.Lib.ConvBytes
import Derived.Laws.Strings2
import Derived.Laws.BitsLemmas
import Derived.Test.YtchdbmnikaacdaaBu1
/- Made by gen_typ.py: what each type of the translation is, and which functions have a body.  -/
set_option linter.all false
set_option maxRecDepth 100000
namespace Go.Proofs.Ytchdbmnikaacdaa
open Go Go.RowKit
theorem TI.mk_ {P : Program} {t : TypeId} {d : TypeDesc} {agg : Bool} {size bytes : Nat} (hd : P.underlying t = some d) (ha : aggD d = agg) (hi : (P.info? t).map (fun i => (i.size, i.bytes)) = some (size, bytes)) : TI P t agg size bytes := by
  cases h : P.info? t with
  | none => rw [h] at hi; cases hi
  | some i =>
    rw [h] at hi
    simp only [Option.map_some, Option.some.injEq, Prod.mk.injEq] at hi
    exact ⟨d, i, hd, ha, h, hi.1, hi.2⟩
theorem TZ.mk_ {P : Program} {t : TypeId} {cs : Array Value} (hi : (P.info? t).bind (fun i => i.zero.map (·.cells)) = some cs) : TZ P t cs := by
  cases h : P.info? t with
  | none => rw [h] at hi; cases hi
  | some i =>
    rw [h] at hi
    simp only [Option.bind_some, Option.map_eq_some_iff] at hi
    obtain ⟨z, hz, hc⟩ := hi
    exact ⟨i, z, h, hz, hc⟩
instance tu0 : U Try.prog 0 (TypeDesc.tuple #[]) := ⟨Try.underlying0⟩
instance tu1 : U Try.prog 1 (TypeDesc.func #[] #[] false) := ⟨Try.underlying1⟩
instance ti1 : TI Try.prog 1 false 1 8 := TI.mk_ Try.underlying1 rfl (by kernel_rfl)
instance tz1 : TZ Try.prog 1 #[.nilFunc] := TZ.mk_ (by kernel_rfl)
instance tu2 : U Try.prog 2 (TypeDesc.int IntKind.i64) := ⟨Try.underlying2⟩
instance ti2 : TI Try.prog 2 false 1 8 := TI.mk_ Try.underlying2 rfl (by kernel_rfl)
instance tz2 : TZ Try.prog 2 #[.int .i64 0] := TZ.mk_ (by kernel_rfl)
instance tu3 : U Try.prog 3 (TypeDesc.int IntKind.i64) := ⟨Try.underlying3⟩
instance ti3 : TI Try.prog 3 false 1 8 := TI.mk_ Try.underlying3 rfl (by kernel_rfl)
instance tz3 : TZ Try.prog 3 #[.int .i64 0] := TZ.mk_ (by kernel_rfl)
instance tu4 : U Try.prog 4 (TypeDesc.bool) := ⟨Try.underlying4⟩
instance ti4 : TI Try.prog 4 false 1 1 := TI.mk_ Try.underlying4 rfl (by kernel_rfl)
instance tz4 : TZ Try.prog 4 #[.bool false] := TZ.mk_ (by kernel_rfl)
instance tu5 : U Try.prog 5 (TypeDesc.int IntKind.u8) := ⟨Try.underlying5⟩
instance ti5 : TI Try.prog 5 false 1 1 := TI.mk_ Try.underlying5 rfl (by kernel_rfl)
instance tz5 : TZ Try.prog 5 #[.int .u8 0] := TZ.mk_ (by kernel_rfl)
instance tu6 : U Try.prog 6 (TypeDesc.int IntKind.u8) := ⟨Try.underlying6⟩
instance ti6 : TI Try.prog 6 false 1 1 := TI.mk_ Try.underlying6 rfl (by kernel_rfl)
instance tz6 : TZ Try.prog 6 #[.int .u8 0] := TZ.mk_ (by kernel_rfl)
instance tu7 : U Try.prog 7 (TypeDesc.struct #[{ name := "x", type := 2, offset := 0, embedded := false, tag := "", pkgPath := "runtime", byteOffset := 0 }, { name := "y", type := 3, offset := 1, embedded := false, tag := "", pkgPath := "runtime", byteOffset := 8 }, { name := "signed", type := 4, offset := 2, embedded := false, tag := "", pkgPath := "runtime", byteOffset := 16 }, { name := "code", type := 6, offset := 3, embedded := false, tag := "", pkgPath := "runtime", byteOffset := 17 }]) := ⟨Try.underlying7⟩
instance ti7 : TI Try.prog 7 true 4 24 := TI.mk_ Try.underlying7 rfl (by kernel_rfl)
instance tu8 : U Try.prog 8 (TypeDesc.struct #[{ name := "x", type := 2, offset := 0, embedded := false, tag := "", pkgPath := "runtime", byteOffset := 0 }, { name := "y", type := 3, offset := 1, embedded := false, tag := "", pkgPath := "runtime", byteOffset := 8 }, { name := "signed", type := 4, offset := 2, embedded := false, tag := "", pkgPath := "runtime", byteOffset := 16 }, { name := "code", type := 6, offset := 3, embedded := false, tag := "", pkgPath := "runtime", byteOffset := 17 }]) := ⟨Try.underlying8⟩
instance ti8 : TI Try.prog 8 true 4 24 := TI.mk_ Try.underlying8 rfl (by kernel_rfl)
instance tu9 : U Try.prog 9 (TypeDesc.string) := ⟨Try.underlying9⟩
instance ti9 : TI Try.prog 9 false 1 16 := TI.mk_ Try.underlying9 rfl (by kernel_rfl)
instance tz9 : TZ Try.prog 9 #[.string .empty] := TZ.mk_ (by kernel_rfl)
instance tu10 : U Try.prog 10 (TypeDesc.string) := ⟨Try.underlying10⟩
instance ti10 : TI Try.prog 10 false 1 16 := TI.mk_ Try.underlying10 rfl (by kernel_rfl)
instance tz10 : TZ Try.prog 10 #[.string .empty] := TZ.mk_ (by kernel_rfl)
instance tu11 : U Try.prog 11 (TypeDesc.string) := ⟨Try.underlying11⟩
instance ti11 : TI Try.prog 11 false 1 16 := TI.mk_ Try.underlying11 rfl (by kernel_rfl)
instance tz11 : TZ Try.prog 11 #[.string .empty] := TZ.mk_ (by kernel_rfl)
instance tu12 : U Try.prog 12 (TypeDesc.int IntKind.u64) := ⟨Try.underlying12⟩
instance ti12 : TI Try.prog 12 false 1 8 := TI.mk_ Try.underlying12 rfl (by kernel_rfl)
instance tz12 : TZ Try.prog 12 #[.int .u64 0] := TZ.mk_ (by kernel_rfl)
instance tu13 : U Try.prog 13 (TypeDesc.struct #[{ name := "msg", type := 9, offset := 0, embedded := false, tag := "", pkgPath := "runtime", byteOffset := 0 }, { name := "addr", type := 12, offset := 1, embedded := false, tag := "", pkgPath := "runtime", byteOffset := 16 }]) := ⟨Try.underlying13⟩
instance ti13 : TI Try.prog 13 true 2 24 := TI.mk_ Try.underlying13 rfl (by kernel_rfl)
instance tu14 : U Try.prog 14 (TypeDesc.struct #[{ name := "msg", type := 9, offset := 0, embedded := false, tag := "", pkgPath := "runtime", byteOffset := 0 }, { name := "addr", type := 12, offset := 1, embedded := false, tag := "", pkgPath := "runtime", byteOffset := 16 }]) := ⟨Try.underlying14⟩
instance ti14 : TI Try.prog 14 true 2 24 := TI.mk_ Try.underlying14 rfl (by kernel_rfl)
instance tu15 : U Try.prog 15 (TypeDesc.pointer 72) := ⟨Try.underlying15⟩
instance ti15 : TI Try.prog 15 false 1 8 := TI.mk_ Try.underlying15 rfl (by kernel_rfl)
instance tz15 : TZ Try.prog 15 #[.pointer none] := TZ.mk_ (by kernel_rfl)
instance tu16 : U Try.prog 16 (TypeDesc.pointer 75) := ⟨Try.underlying16⟩
instance ti16 : TI Try.prog 16 false 1 8 := TI.mk_ Try.underlying16 rfl (by kernel_rfl)
instance tz16 : TZ Try.prog 16 #[.pointer none] := TZ.mk_ (by kernel_rfl)
instance tu17 : U Try.prog 17 (TypeDesc.pointer 84) := ⟨Try.underlying17⟩
instance ti17 : TI Try.prog 17 false 1 8 := TI.mk_ Try.underlying17 rfl (by kernel_rfl)
instance tz17 : TZ Try.prog 17 #[.pointer none] := TZ.mk_ (by kernel_rfl)
instance tu18 : U Try.prog 18 (TypeDesc.struct #[{ name := "typ", type := 17, offset := 0, embedded := false, tag := "", pkgPath := "internal/runtime/maps", byteOffset := 0 }]) := ⟨Try.underlying18⟩
instance ti18 : TI Try.prog 18 true 1 8 := TI.mk_ Try.underlying18 rfl (by kernel_rfl)
instance tu19 : U Try.prog 19 (TypeDesc.struct #[{ name := "typ", type := 17, offset := 0, embedded := false, tag := "", pkgPath := "internal/runtime/maps", byteOffset := 0 }]) := ⟨Try.underlying19⟩
instance ti19 : TI Try.prog 19 true 1 8 := TI.mk_ Try.underlying19 rfl (by kernel_rfl)
instance tu20 : U Try.prog 20 (TypeDesc.interface #[]) := ⟨Try.underlying20⟩
instance ti20 : TI Try.prog 20 false 1 16 := TI.mk_ Try.underlying20 rfl (by kernel_rfl)
instance tz20 : TZ Try.prog 20 #[.nilIface] := TZ.mk_ (by kernel_rfl)
instance tu21 : U Try.prog 21 (TypeDesc.int IntKind.i32) := ⟨Try.underlying21⟩
instance ti21 : TI Try.prog 21 false 1 4 := TI.mk_ Try.underlying21 rfl (by kernel_rfl)
instance tz21 : TZ Try.prog 21 #[.int .i32 0] := TZ.mk_ (by kernel_rfl)
instance tu22 : U Try.prog 22 (TypeDesc.int IntKind.u32) := ⟨Try.underlying22⟩
instance ti22 : TI Try.prog 22 false 1 4 := TI.mk_ Try.underlying22 rfl (by kernel_rfl)
instance tz22 : TZ Try.prog 22 #[.int .u32 0] := TZ.mk_ (by kernel_rfl)
instance tu23 : U Try.prog 23 (TypeDesc.array 32 5) := ⟨Try.underlying23⟩
instance ti23 : TI Try.prog 23 true 32 32 := TI.mk_ Try.underlying23 rfl (by kernel_rfl)
instance tu24 : U Try.prog 24 (TypeDesc.array 32 5) := ⟨Try.underlying24⟩
instance ti24 : TI Try.prog 24 true 32 32 := TI.mk_ Try.underlying24 rfl (by kernel_rfl)
instance tu25 : U Try.prog 25 (TypeDesc.slice 43) := ⟨Try.underlying25⟩
instance ti25 : TI Try.prog 25 false 1 24 := TI.mk_ Try.underlying25 rfl (by kernel_rfl)
instance tz25 : TZ Try.prog 25 #[.slice none 0 0] := TZ.mk_ (by kernel_rfl)
instance tu26 : U Try.prog 26 (TypeDesc.slice 37) := ⟨Try.underlying26⟩
instance ti26 : TI Try.prog 26 false 1 24 := TI.mk_ Try.underlying26 rfl (by kernel_rfl)
instance tz26 : TZ Try.prog 26 #[.slice none 0 0] := TZ.mk_ (by kernel_rfl)
instance tu27 : U Try.prog 27 (TypeDesc.slice 24) := ⟨Try.underlying27⟩
instance ti27 : TI Try.prog 27 false 1 24 := TI.mk_ Try.underlying27 rfl (by kernel_rfl)
instance tz27 : TZ Try.prog 27 #[.slice none 0 0] := TZ.mk_ (by kernel_rfl)
instance tu28 : U Try.prog 28 (TypeDesc.struct #[{ name := "Expiry", type := 22, offset := 0, embedded := false, tag := "", pkgPath := "", byteOffset := 0 }, { name := "Ins", type := 25, offset := 1, embedded := false, tag := "", pkgPath := "", byteOffset := 8 }, { name := "Outs", type := 26, offset := 2, embedded := false, tag := "", pkgPath := "", byteOffset := 32 }, { name := "Anchor", type := 24, offset := 3, embedded := false, tag := "", pkgPath := "", byteOffset := 56 }, { name := "Nulls", type := 27, offset := 35, embedded := false, tag := "", pkgPath := "", byteOffset := 88 }, { name := "Notes", type := 27, offset := 36, embedded := false, tag := "", pkgPath := "", byteOffset := 112 }, { name := "Balance", type := 2, offset := 37, embedded := false, tag := "", pkgPath := "", byteOffset := 136 }]) := ⟨Try.underlying28⟩
instance ti28 : TI Try.prog 28 true 38 144 := TI.mk_ Try.underlying28 rfl (by kernel_rfl)
instance tu29 : U Try.prog 29 (TypeDesc.struct #[{ name := "Expiry", type := 22, offset := 0, embedded := false, tag := "", pkgPath := "", byteOffset := 0 }, { name := "Ins", type := 25, offset := 1, embedded := false, tag := "", pkgPath := "", byteOffset := 8 }, { name := "Outs", type := 26, offset := 2, embedded := false, tag := "", pkgPath := "", byteOffset := 32 }, { name := "Anchor", type := 24, offset := 3, embedded := false, tag := "", pkgPath := "", byteOffset := 56 }, { name := "Nulls", type := 27, offset := 35, embedded := false, tag := "", pkgPath := "", byteOffset := 88 }, { name := "Notes", type := 27, offset := 36, embedded := false, tag := "", pkgPath := "", byteOffset := 112 }, { name := "Balance", type := 2, offset := 37, embedded := false, tag := "", pkgPath := "", byteOffset := 136 }]) := ⟨Try.underlying29⟩
instance ti29 : TI Try.prog 29 true 38 144 := TI.mk_ Try.underlying29 rfl (by kernel_rfl)
instance tu30 : U Try.prog 30 (TypeDesc.func #[22, 24, 2] #[29] false) := ⟨Try.underlying30⟩
instance ti30 : TI Try.prog 30 false 1 8 := TI.mk_ Try.underlying30 rfl (by kernel_rfl)
instance tz30 : TZ Try.prog 30 #[.nilFunc] := TZ.mk_ (by kernel_rfl)
instance tu31 : U Try.prog 31 (TypeDesc.int IntKind.i64) := ⟨Try.underlying31⟩
instance ti31 : TI Try.prog 31 false 1 8 := TI.mk_ Try.underlying31 rfl (by kernel_rfl)
instance tz31 : TZ Try.prog 31 #[.int .i64 0] := TZ.mk_ (by kernel_rfl)
instance tu32 : U Try.prog 32 (TypeDesc.tuple #[24, 31]) := ⟨Try.underlying32⟩
instance tu33 : U Try.prog 33 (TypeDesc.func #[29] #[24, 31] false) := ⟨Try.underlying33⟩
instance ti33 : TI Try.prog 33 false 1 8 := TI.mk_ Try.underlying33 rfl (by kernel_rfl)
instance tz33 : TZ Try.prog 33 #[.nilFunc] := TZ.mk_ (by kernel_rfl)
instance tu34 : U Try.prog 34 (TypeDesc.func #[29] #[4] false) := ⟨Try.underlying34⟩
instance ti34 : TI Try.prog 34 false 1 8 := TI.mk_ Try.underlying34 rfl (by kernel_rfl)
instance tz34 : TZ Try.prog 34 #[.nilFunc] := TZ.mk_ (by kernel_rfl)
instance tu35 : U Try.prog 35 (TypeDesc.func #[29, 4] #[31] false) := ⟨Try.underlying35⟩
instance ti35 : TI Try.prog 35 false 1 8 := TI.mk_ Try.underlying35 rfl (by kernel_rfl)
instance tz35 : TZ Try.prog 35 #[.nilFunc] := TZ.mk_ (by kernel_rfl)
instance tu36 : U Try.prog 36 (TypeDesc.struct #[{ name := "Value", type := 2, offset := 0, embedded := false, tag := "", pkgPath := "", byteOffset := 0 }, { name := "Lock", type := 24, offset := 1, embedded := false, tag := "", pkgPath := "", byteOffset := 8 }]) := ⟨Try.underlying36⟩
instance ti36 : TI Try.prog 36 true 33 40 := TI.mk_ Try.underlying36 rfl (by kernel_rfl)
instance tu37 : U Try.prog 37 (TypeDesc.struct #[{ name := "Value", type := 2, offset := 0, embedded := false, tag := "", pkgPath := "", byteOffset := 0 }, { name := "Lock", type := 24, offset := 1, embedded := false, tag := "", pkgPath := "", byteOffset := 8 }]) := ⟨Try.underlying37⟩
instance ti37 : TI Try.prog 37 true 33 40 := TI.mk_ Try.underlying37 rfl (by kernel_rfl)
instance tu38 : U Try.prog 38 (TypeDesc.func #[29, 29] #[4] false) := ⟨Try.underlying38⟩
instance ti38 : TI Try.prog 38 false 1 8 := TI.mk_ Try.underlying38 rfl (by kernel_rfl)
instance tz38 : TZ Try.prog 38 #[.nilFunc] := TZ.mk_ (by kernel_rfl)
instance tu39 : U Try.prog 39 (TypeDesc.func #[29] #[3] false) := ⟨Try.underlying39⟩
instance ti39 : TI Try.prog 39 false 1 8 := TI.mk_ Try.underlying39 rfl (by kernel_rfl)
instance tz39 : TZ Try.prog 39 #[.nilFunc] := TZ.mk_ (by kernel_rfl)
instance tu40 : U Try.prog 40 (TypeDesc.func #[] #[4] false) := ⟨Try.underlying40⟩
instance ti40 : TI Try.prog 40 false 1 8 := TI.mk_ Try.underlying40 rfl (by kernel_rfl)
instance tz40 : TZ Try.prog 40 #[.nilFunc] := TZ.mk_ (by kernel_rfl)
instance tu41 : U Try.prog 41 (TypeDesc.func #[22, 24, 22] #[4] false) := ⟨Try.underlying41⟩
instance ti41 : TI Try.prog 41 false 1 8 := TI.mk_ Try.underlying41 rfl (by kernel_rfl)
instance tz41 : TZ Try.prog 41 #[.nilFunc] := TZ.mk_ (by kernel_rfl)
instance tu42 : U Try.prog 42 (TypeDesc.struct #[{ name := "Tx", type := 24, offset := 0, embedded := false, tag := "", pkgPath := "", byteOffset := 0 }, { name := "Index", type := 22, offset := 32, embedded := false, tag := "", pkgPath := "", byteOffset := 32 }]) := ⟨Try.underlying42⟩
instance ti42 : TI Try.prog 42 true 33 36 := TI.mk_ Try.underlying42 rfl (by kernel_rfl)
instance tu43 : U Try.prog 43 (TypeDesc.struct #[{ name := "Tx", type := 24, offset := 0, embedded := false, tag := "", pkgPath := "", byteOffset := 0 }, { name := "Index", type := 22, offset := 32, embedded := false, tag := "", pkgPath := "", byteOffset := 32 }]) := ⟨Try.underlying43⟩
instance ti43 : TI Try.prog 43 true 33 36 := TI.mk_ Try.underlying43 rfl (by kernel_rfl)
instance tu44 : U Try.prog 44 (TypeDesc.tuple #[9, 31]) := ⟨Try.underlying44⟩
instance tu45 : U Try.prog 45 (TypeDesc.func #[29] #[9, 31] false) := ⟨Try.underlying45⟩
instance ti45 : TI Try.prog 45 false 1 8 := TI.mk_ Try.underlying45 rfl (by kernel_rfl)
instance tz45 : TZ Try.prog 45 #[.nilFunc] := TZ.mk_ (by kernel_rfl)
instance tu46 : U Try.prog 46 (TypeDesc.func #[9] #[24] false) := ⟨Try.underlying46⟩
instance ti46 : TI Try.prog 46 false 1 8 := TI.mk_ Try.underlying46 rfl (by kernel_rfl)
instance tz46 : TZ Try.prog 46 #[.nilFunc] := TZ.mk_ (by kernel_rfl)
instance tu47 : U Try.prog 47 (TypeDesc.func #[25] #[4] false) := ⟨Try.underlying47⟩
instance ti47 : TI Try.prog 47 false 1 8 := TI.mk_ Try.underlying47 rfl (by kernel_rfl)
instance tz47 : TZ Try.prog 47 #[.nilFunc] := TZ.mk_ (by kernel_rfl)
instance tu48 : U Try.prog 48 (TypeDesc.func #[27] #[4] false) := ⟨Try.underlying48⟩
instance ti48 : TI Try.prog 48 false 1 8 := TI.mk_ Try.underlying48 rfl (by kernel_rfl)
instance tz48 : TZ Try.prog 48 #[.nilFunc] := TZ.mk_ (by kernel_rfl)
instance tu49 : U Try.prog 49 (TypeDesc.tuple #[2, 31]) := ⟨Try.underlying49⟩
instance tu50 : U Try.prog 50 (TypeDesc.func #[51] #[2, 31] false) := ⟨Try.underlying50⟩
instance ti50 : TI Try.prog 50 false 1 8 := TI.mk_ Try.underlying50 rfl (by kernel_rfl)
instance tz50 : TZ Try.prog 50 #[.nilFunc] := TZ.mk_ (by kernel_rfl)
instance tu51 : U Try.prog 51 (TypeDesc.slice 2) := ⟨Try.underlying51⟩
instance ti51 : TI Try.prog 51 false 1 24 := TI.mk_ Try.underlying51 rfl (by kernel_rfl)
instance tz51 : TZ Try.prog 51 #[.slice none 0 0] := TZ.mk_ (by kernel_rfl)
instance tu52 : U Try.prog 52 (TypeDesc.func #[29] #[51] false) := ⟨Try.underlying52⟩
instance ti52 : TI Try.prog 52 false 1 8 := TI.mk_ Try.underlying52 rfl (by kernel_rfl)
instance tz52 : TZ Try.prog 52 #[.nilFunc] := TZ.mk_ (by kernel_rfl)
instance tu53 : U Try.prog 53 (TypeDesc.func #[54, 3] #[9] false) := ⟨Try.underlying53⟩
instance ti53 : TI Try.prog 53 false 1 8 := TI.mk_ Try.underlying53 rfl (by kernel_rfl)
instance tz53 : TZ Try.prog 53 #[.nilFunc] := TZ.mk_ (by kernel_rfl)
instance tu54 : U Try.prog 54 (TypeDesc.int IntKind.u64) := ⟨Try.underlying54⟩
instance ti54 : TI Try.prog 54 false 1 8 := TI.mk_ Try.underlying54 rfl (by kernel_rfl)
instance tz54 : TZ Try.prog 54 #[.int .u64 0] := TZ.mk_ (by kernel_rfl)
instance tu55 : U Try.prog 55 (TypeDesc.func #[54] #[9] false) := ⟨Try.underlying55⟩
instance ti55 : TI Try.prog 55 false 1 8 := TI.mk_ Try.underlying55 rfl (by kernel_rfl)
instance tz55 : TZ Try.prog 55 #[.nilFunc] := TZ.mk_ (by kernel_rfl)
instance tu56 : U Try.prog 56 (TypeDesc.func #[24] #[9] false) := ⟨Try.underlying56⟩
instance ti56 : TI Try.prog 56 false 1 8 := TI.mk_ Try.underlying56 rfl (by kernel_rfl)
instance tz56 : TZ Try.prog 56 #[.nilFunc] := TZ.mk_ (by kernel_rfl)
instance tu57 : U Try.prog 57 (TypeDesc.func #[27, 24] #[4] false) := ⟨Try.underlying57⟩
instance ti57 : TI Try.prog 57 false 1 8 := TI.mk_ Try.underlying57 rfl (by kernel_rfl)
instance tz57 : TZ Try.prog 57 #[.nilFunc] := TZ.mk_ (by kernel_rfl)
instance tu58 : U Try.prog 58 (TypeDesc.func #[2, 2] #[2, 31] false) := ⟨Try.underlying58⟩
instance ti58 : TI Try.prog 58 false 1 8 := TI.mk_ Try.underlying58 rfl (by kernel_rfl)
instance tz58 : TZ Try.prog 58 #[.nilFunc] := TZ.mk_ (by kernel_rfl)
instance tu59 : U Try.prog 59 (TypeDesc.slice 5) := ⟨Try.underlying59⟩
instance ti59 : TI Try.prog 59 false 1 24 := TI.mk_ Try.underlying59 rfl (by kernel_rfl)
instance tz59 : TZ Try.prog 59 #[.slice none 0 0] := TZ.mk_ (by kernel_rfl)
instance tu60 : U Try.prog 60 (TypeDesc.array 8 22) := ⟨Try.underlying60⟩
instance ti60 : TI Try.prog 60 true 8 32 := TI.mk_ Try.underlying60 rfl (by kernel_rfl)
instance tu61 : U Try.prog 61 (TypeDesc.func #[9] #[9] false) := ⟨Try.underlying61⟩
instance ti61 : TI Try.prog 61 false 1 8 := TI.mk_ Try.underlying61 rfl (by kernel_rfl)
instance tz61 : TZ Try.prog 61 #[.nilFunc] := TZ.mk_ (by kernel_rfl)
instance tu62 : U Try.prog 62 (TypeDesc.func #[60, 9] #[60] false) := ⟨Try.underlying62⟩
instance ti62 : TI Try.prog 62 false 1 8 := TI.mk_ Try.underlying62 rfl (by kernel_rfl)
instance tz62 : TZ Try.prog 62 #[.nilFunc] := TZ.mk_ (by kernel_rfl)
instance tu63 : U Try.prog 63 (TypeDesc.func #[2] #[4] false) := ⟨Try.underlying63⟩
instance ti63 : TI Try.prog 63 false 1 8 := TI.mk_ Try.underlying63 rfl (by kernel_rfl)
instance tz63 : TZ Try.prog 63 #[.nilFunc] := TZ.mk_ (by kernel_rfl)
instance tu64 : U Try.prog 64 (TypeDesc.array 64 22) := ⟨Try.underlying64⟩
instance ti64 : TI Try.prog 64 true 64 256 := TI.mk_ Try.underlying64 rfl (by kernel_rfl)
instance tu65 : U Try.prog 65 (TypeDesc.func #[] #[64] false) := ⟨Try.underlying65⟩
instance ti65 : TI Try.prog 65 false 1 8 := TI.mk_ Try.underlying65 rfl (by kernel_rfl)
instance tz65 : TZ Try.prog 65 #[.nilFunc] := TZ.mk_ (by kernel_rfl)
instance tu66 : U Try.prog 66 (TypeDesc.slice 22) := ⟨Try.underlying66⟩
instance ti66 : TI Try.prog 66 false 1 24 := TI.mk_ Try.underlying66 rfl (by kernel_rfl)
instance tz66 : TZ Try.prog 66 #[.slice none 0 0] := TZ.mk_ (by kernel_rfl)
instance tu67 : U Try.prog 67 (TypeDesc.func #[9] #[66] false) := ⟨Try.underlying67⟩
instance ti67 : TI Try.prog 67 false 1 8 := TI.mk_ Try.underlying67 rfl (by kernel_rfl)
instance tz67 : TZ Try.prog 67 #[.nilFunc] := TZ.mk_ (by kernel_rfl)
instance tu68 : U Try.prog 68 (TypeDesc.func #[22, 3] #[22] false) := ⟨Try.underlying68⟩
instance ti68 : TI Try.prog 68 false 1 8 := TI.mk_ Try.underlying68 rfl (by kernel_rfl)
instance tz68 : TZ Try.prog 68 #[.nilFunc] := TZ.mk_ (by kernel_rfl)
instance tu69 : U Try.prog 69 (TypeDesc.int IntKind.u64) := ⟨Try.underlying69⟩
instance ti69 : TI Try.prog 69 false 1 8 := TI.mk_ Try.underlying69 rfl (by kernel_rfl)
instance tz69 : TZ Try.prog 69 #[.int .u64 0] := TZ.mk_ (by kernel_rfl)
instance tu70 : U Try.prog 70 (TypeDesc.func #[] #[9] false) := ⟨Try.underlying70⟩
instance ti70 : TI Try.prog 70 false 1 8 := TI.mk_ Try.underlying70 rfl (by kernel_rfl)
instance tz70 : TZ Try.prog 70 #[.nilFunc] := TZ.mk_ (by kernel_rfl)
instance tu71 : U Try.prog 71 (TypeDesc.struct #[{ name := "_interface", type := 17, offset := 0, embedded := false, tag := "", pkgPath := "runtime", byteOffset := 0 }, { name := "concrete", type := 17, offset := 1, embedded := false, tag := "", pkgPath := "runtime", byteOffset := 8 }, { name := "asserted", type := 17, offset := 2, embedded := false, tag := "", pkgPath := "runtime", byteOffset := 16 }, { name := "missingMethod", type := 9, offset := 3, embedded := false, tag := "", pkgPath := "runtime", byteOffset := 24 }]) := ⟨Try.underlying71⟩
instance ti71 : TI Try.prog 71 true 4 40 := TI.mk_ Try.underlying71 rfl (by kernel_rfl)
instance tu72 : U Try.prog 72 (TypeDesc.struct #[{ name := "_interface", type := 17, offset := 0, embedded := false, tag := "", pkgPath := "runtime", byteOffset := 0 }, { name := "concrete", type := 17, offset := 1, embedded := false, tag := "", pkgPath := "runtime", byteOffset := 8 }, { name := "asserted", type := 17, offset := 2, embedded := false, tag := "", pkgPath := "runtime", byteOffset := 16 }, { name := "missingMethod", type := 9, offset := 3, embedded := false, tag := "", pkgPath := "runtime", byteOffset := 24 }]) := ⟨Try.underlying72⟩
instance ti72 : TI Try.prog 72 true 4 40 := TI.mk_ Try.underlying72 rfl (by kernel_rfl)
instance tu73 : U Try.prog 73 (TypeDesc.array 0 16) := ⟨Try.underlying73⟩
instance ti73 : TI Try.prog 73 true 0 0 := TI.mk_ Try.underlying73 rfl (by kernel_rfl)
instance tu74 : U Try.prog 74 (TypeDesc.struct #[{ name := "_", type := 73, offset := 0, embedded := false, tag := "", pkgPath := "runtime", byteOffset := 0 }]) := ⟨Try.underlying74⟩
instance ti74 : TI Try.prog 74 true 0 0 := TI.mk_ Try.underlying74 rfl (by kernel_rfl)
instance tu75 : U Try.prog 75 (TypeDesc.struct #[{ name := "_", type := 73, offset := 0, embedded := false, tag := "", pkgPath := "runtime", byteOffset := 0 }]) := ⟨Try.underlying75⟩
instance ti75 : TI Try.prog 75 true 0 0 := TI.mk_ Try.underlying75 rfl (by kernel_rfl)
instance tu76 : U Try.prog 76 (TypeDesc.func #[] #[3] false) := ⟨Try.underlying76⟩
instance ti76 : TI Try.prog 76 false 1 8 := TI.mk_ Try.underlying76 rfl (by kernel_rfl)
instance tz76 : TZ Try.prog 76 #[.nilFunc] := TZ.mk_ (by kernel_rfl)
instance tu77 : U Try.prog 77 (TypeDesc.int IntKind.u8) := ⟨Try.underlying77⟩
instance ti77 : TI Try.prog 77 false 1 1 := TI.mk_ Try.underlying77 rfl (by kernel_rfl)
instance tz77 : TZ Try.prog 77 #[.int .u8 0] := TZ.mk_ (by kernel_rfl)
instance tu78 : U Try.prog 78 (TypeDesc.int IntKind.u8) := ⟨Try.underlying78⟩
instance ti78 : TI Try.prog 78 false 1 1 := TI.mk_ Try.underlying78 rfl (by kernel_rfl)
instance tz78 : TZ Try.prog 78 #[.int .u8 0] := TZ.mk_ (by kernel_rfl)
instance tu79 : U Try.prog 79 (TypeDesc.func #[85, 85] #[4] false) := ⟨Try.underlying79⟩
instance ti79 : TI Try.prog 79 false 1 8 := TI.mk_ Try.underlying79 rfl (by kernel_rfl)
instance tz79 : TZ Try.prog 79 #[.nilFunc] := TZ.mk_ (by kernel_rfl)
instance tu80 : U Try.prog 80 (TypeDesc.pointer 5) := ⟨Try.underlying80⟩
instance ti80 : TI Try.prog 80 false 1 8 := TI.mk_ Try.underlying80 rfl (by kernel_rfl)
instance tz80 : TZ Try.prog 80 #[.pointer none] := TZ.mk_ (by kernel_rfl)
instance tu81 : U Try.prog 81 (TypeDesc.int IntKind.i32) := ⟨Try.underlying81⟩
instance ti81 : TI Try.prog 81 false 1 4 := TI.mk_ Try.underlying81 rfl (by kernel_rfl)
instance tz81 : TZ Try.prog 81 #[.int .i32 0] := TZ.mk_ (by kernel_rfl)
instance tu82 : U Try.prog 82 (TypeDesc.int IntKind.i32) := ⟨Try.underlying82⟩
instance ti82 : TI Try.prog 82 false 1 4 := TI.mk_ Try.underlying82 rfl (by kernel_rfl)
instance tz82 : TZ Try.prog 82 #[.int .i32 0] := TZ.mk_ (by kernel_rfl)
instance tu83 : U Try.prog 83 (TypeDesc.struct #[{ name := "Size_", type := 12, offset := 0, embedded := false, tag := "", pkgPath := "", byteOffset := 0 }, { name := "PtrBytes", type := 12, offset := 1, embedded := false, tag := "", pkgPath := "", byteOffset := 8 }, { name := "Hash", type := 22, offset := 2, embedded := false, tag := "", pkgPath := "", byteOffset := 16 }, { name := "TFlag", type := 77, offset := 3, embedded := false, tag := "", pkgPath := "", byteOffset := 20 }, { name := "Align_", type := 5, offset := 4, embedded := false, tag := "", pkgPath := "", byteOffset := 21 }, { name := "FieldAlign_", type := 5, offset := 5, embedded := false, tag := "", pkgPath := "", byteOffset := 22 }, { name := "Kind_", type := 78, offset := 6, embedded := false, tag := "", pkgPath := "", byteOffset := 23 }, { name := "Equal", type := 79, offset := 7, embedded := false, tag := "", pkgPath := "", byteOffset := 24 }, { name := "GCData", type := 80, offset := 8, embedded := false, tag := "", pkgPath := "", byteOffset := 32 }, { name := "Str", type := 81, offset := 9, embedded := false, tag := "", pkgPath := "", byteOffset := 40 }, { name := "PtrToThis", type := 82, offset := 10, embedded := false, tag := "", pkgPath := "", byteOffset := 44 }]) := ⟨Try.underlying83⟩
instance ti83 : TI Try.prog 83 true 11 48 := TI.mk_ Try.underlying83 rfl (by kernel_rfl)
instance tu84 : U Try.prog 84 (TypeDesc.struct #[{ name := "Size_", type := 12, offset := 0, embedded := false, tag := "", pkgPath := "", byteOffset := 0 }, { name := "PtrBytes", type := 12, offset := 1, embedded := false, tag := "", pkgPath := "", byteOffset := 8 }, { name := "Hash", type := 22, offset := 2, embedded := false, tag := "", pkgPath := "", byteOffset := 16 }, { name := "TFlag", type := 77, offset := 3, embedded := false, tag := "", pkgPath := "", byteOffset := 20 }, { name := "Align_", type := 5, offset := 4, embedded := false, tag := "", pkgPath := "", byteOffset := 21 }, { name := "FieldAlign_", type := 5, offset := 5, embedded := false, tag := "", pkgPath := "", byteOffset := 22 }, { name := "Kind_", type := 78, offset := 6, embedded := false, tag := "", pkgPath := "", byteOffset := 23 }, { name := "Equal", type := 79, offset := 7, embedded := false, tag := "", pkgPath := "", byteOffset := 24 }, { name := "GCData", type := 80, offset := 8, embedded := false, tag := "", pkgPath := "", byteOffset := 32 }, { name := "Str", type := 81, offset := 9, embedded := false, tag := "", pkgPath := "", byteOffset := 40 }, { name := "PtrToThis", type := 82, offset := 10, embedded := false, tag := "", pkgPath := "", byteOffset := 44 }]) := ⟨Try.underlying84⟩
instance ti84 : TI Try.prog 84 true 11 48 := TI.mk_ Try.underlying84 rfl (by kernel_rfl)
instance tu85 : U Try.prog 85 (TypeDesc.unsafePointer) := ⟨Try.underlying85⟩
instance ti85 : TI Try.prog 85 false 1 8 := TI.mk_ Try.underlying85 rfl (by kernel_rfl)
instance fn2 : Fnc Try.prog 2 := Fnc.mk_ Try.func2 (by kernel_rfl) rfl
instance fn3 : Fnc Try.prog 3 := Fnc.mk_ Try.func3 (by kernel_rfl) rfl
instance fn4 : Fnc Try.prog 4 := Fnc.mk_ Try.func4 (by kernel_rfl) rfl
instance fn5 : Fnc Try.prog 5 := Fnc.mk_ Try.func5 (by kernel_rfl) rfl
instance fn6 : Fnc Try.prog 6 := Fnc.mk_ Try.func6 (by kernel_rfl) rfl
instance fn7 : Fnc Try.prog 7 := Fnc.mk_ Try.func7 (by kernel_rfl) rfl
instance fn8 : Fnc Try.prog 8 := Fnc.mk_ Try.func8 (by kernel_rfl) rfl
instance fn9 : Fnc Try.prog 9 := Fnc.mk_ Try.func9 (by kernel_rfl) rfl
instance fn10 : Fnc Try.prog 10 := Fnc.mk_ Try.func10 (by kernel_rfl) rfl
instance fn11 : Fnc Try.prog 11 := Fnc.mk_ Try.func11 (by kernel_rfl) rfl
instance fn12 : Fnc Try.prog 12 := Fnc.mk_ Try.func12 (by kernel_rfl) rfl
instance fn13 : Fnc Try.prog 13 := Fnc.mk_ Try.func13 (by kernel_rfl) rfl
instance fn14 : Fnc Try.prog 14 := Fnc.mk_ Try.func14 (by kernel_rfl) rfl
instance fn15 : Fnc Try.prog 15 := Fnc.mk_ Try.func15 (by kernel_rfl) rfl
instance fn16 : Fnc Try.prog 16 := Fnc.mk_ Try.func16 (by kernel_rfl) rfl
instance fn17 : Fnc Try.prog 17 := Fnc.mk_ Try.func17 (by kernel_rfl) rfl
instance fn18 : Fnc Try.prog 18 := Fnc.mk_ Try.func18 (by kernel_rfl) rfl
instance fn19 : Fnc Try.prog 19 := Fnc.mk_ Try.func19 (by kernel_rfl) rfl
instance fn20 : Fnc Try.prog 20 := Fnc.mk_ Try.func20 (by kernel_rfl) rfl
instance fn21 : Fnc Try.prog 21 := Fnc.mk_ Try.func21 (by kernel_rfl) rfl
instance fn22 : Fnc Try.prog 22 := Fnc.mk_ Try.func22 (by kernel_rfl) rfl
instance fn23 : Fnc Try.prog 23 := Fnc.mk_ Try.func23 (by kernel_rfl) rfl
instance fn24 : Fnc Try.prog 24 := Fnc.mk_ Try.func24 (by kernel_rfl) rfl
instance fn25 : Fnc Try.prog 25 := Fnc.mk_ Try.func25 (by kernel_rfl) rfl
instance fn26 : Fnc Try.prog 26 := Fnc.mk_ Try.func26 (by kernel_rfl) rfl
instance fn27 : Fnc Try.prog 27 := Fnc.mk_ Try.func27 (by kernel_rfl) rfl
instance fn28 : Fnc Try.prog 28 := Fnc.mk_ Try.func28 (by kernel_rfl) rfl
instance fn29 : Fnc Try.prog 29 := Fnc.mk_ Try.func29 (by kernel_rfl) rfl
instance fn30 : Fnc Try.prog 30 := Fnc.mk_ Try.func30 (by kernel_rfl) rfl
end Go.Proofs.Ytchdbmnikaacdaa

/- Elements: keys; equality of keys; bytes of a key.  -/
set_option linter.all false
set_option maxHeartbeats 40000000
set_option synthInstance.maxHeartbeats 2000000
set_option synthInstance.maxSize 100000
namespace Go.Proofs.Ytchdbmnikaacdaa
open Go Go.RowKit

theorem lt_of_nble {i n : Nat} (h : Nat.ble n i = false) : i < n := Nat.lt_of_not_le fun k => by rw [Nat.ble_eq_true_of_le k] at h; cases h
instance (priority := low) IdxLt.lit {i n : Nat} [h : EqB (Nat.ble n i) false] : IdxLt i n := ⟨lt_of_nble h.eq⟩

@[reducible] def keyE : Elem Key := { sz := 32, agg := true, val := fun k => .agg (kc k), ok := fun _ _ => True, pos := by omega, size := fun k => kc_size k, one := fun k => (CSz.key (k := k)).one, shapeA := fun _ _ => rfl, shape1 := nofun }
instance se_key : SmallE keyE := ⟨by decide⟩
abbrev key0 : Key := Vector.replicate 32 0
instance eo_key : ElemOf Try.prog 24 keyE 32 := ⟨inferInstance⟩
instance fv_key : FlatV keyE (fun k => .agg (kc k)) := ⟨rfl⟩
instance ev_key {σ : St} {k : Key} : EncV σ keyE (.agg (kc k)) k := ⟨rfl, trivial⟩
theorem kc_zero : kc key0 = Array.replicate 32 (.int .u8 0) := by kernel_rfl
instance tz_key : TZ Try.prog 24 (kc key0) := TZ.mk_ (by rw [kc_zero]; kernel_rfl)
theorem ZeroE.of {P : Program} {t : TypeId} {α : Type} {E : Elem α} {z : α} (h : TZ P t (E.val z).cells) (ok : ∀ σ, E.ok σ z) : ZeroE P t E z := ⟨h.h, ok⟩
instance ze_key : ZeroE Try.prog 24 keyE key0 := ZeroE.of tz_key (fun _ => trivial)

/-- equality of keys -/
theorem run_part1 {P : Program} {e : TypeId} {size bytes : Nat} (ti : TI P e false size bytes) {cs : Array Value} {i : Nat} {v : Value} (h : cs[i]? = some v) (w : World) : (part e cs i).run P w = .ok v w := by
  unfold part
  rw [Sem.run_bind, ti.run_isAgg]
  simp [h]
theorem u8_beq (x y : UInt8) : ((x.toNat : Int) == (y.toNat : Int)) = (x == y) := by
  rw [Bool.eq_iff_iff]
  simp only [beq_iff_eq]
  exact ⟨fun h => UInt8.toNat_inj.1 (by omega), fun h => by rw [h]⟩
theorem eqItems_u8 {P : Program} {e : TypeId} {bytes : Nat} (ti : TI P e false 1 bytes) (hu : P.underlying e = some (.int .u8)) (d : Nat) (w : World) (a b : Key) : ∀ (is : List Nat), (∀ i ∈ is, i < 32) →
    (Op.eqItems (d + 1) e 1 (kc a) (kc b) is).run P w = .ok (is.all fun i => a[i]! == b[i]!) w
  | [], _ => by simp [Op.eqItems]
  | i :: is, h => by
    have hi : i < 32 := h i (by simp)
    have ih := eqItems_u8 ti hu d w a b is (fun j hj => h j (by simp [hj]))
    have ha : (part e (kc a) (i * 1)).run P w = .ok (u8v a[i]) w := run_part1 ti (by simpa using kc_get a i hi) w
    have hb : (part e (kc b) (i * 1)).run P w = .ok (u8v b[i]) w := run_part1 ti (by simpa using kc_get b i hi) w
    have he : (Op.equalIn (d + 1) e (u8v a[i]) (u8v b[i])).run P w = .ok (a[i] == b[i]) w := by
      unfold u8v
      rw [run_equalIn_int w d e .u8 .u8 _ _ hu, u8_beq]
    have h1 : a[i]! = a[i] := getElem!_pos a i hi
    have h2 : b[i]! = b[i] := getElem!_pos b i hi
    simp only [Op.eqItems, Sem.run_bind, ha, hb, he, Result.andThen_ok, List.all_cons, h1, h2]
    by_cases e : a[i] = b[i]
    · simp [e, ih]
    · simp [e]
theorem all_eq_key (a b : Key) : ((List.range 32).all fun i => a[i]! == b[i]!) = decide (a = b) := by
  rw [Bool.eq_iff_iff]
  simp only [List.all_eq_true, List.mem_range, beq_iff_eq, decide_eq_true_eq]
  constructor
  · intro h
    apply Vector.ext
    intro i hi
    have := h i hi
    rwa [getElem!_pos a i hi, getElem!_pos b i hi] at this
  · rintro rfl i _; rfl
theorem run_equalIn_key (d : Nat) (w : World) (a b : Key) : (Op.equalIn (d + 2) 24 (.agg (kc a)) (.agg (kc b))).run Try.prog w = .ok (decide (a = b)) w := by
  obtain ⟨d0, i, hd0, hag, hi, hsz, hby⟩ := (inferInstance : TI Try.prog 5 false 1 1).h
  rw [run_equalIn_array w (d + 1) (kc a) (kc b) (inferInstance : U Try.prog 24 _).h hi, show Try.prog.cellsOf 5 = 1 from by kernel_rfl]
  rw [eqItems_u8 (inferInstance) (inferInstance : U Try.prog 5 _).h d w a b _ (fun i hi => List.mem_range.1 hi), all_eq_key]
theorem Eqv.of_agg {P : Program} {t : TypeId} {x y : Array Value} {b : Bool} (hg : P.eqGuardType P.depth t = false) (he : ∀ w, (Op.equalIn 10000 t (.agg x) (.agg y)).run P w = .ok b w) : Eqv P t (.agg x) (.agg y) b := by
  refine ⟨fun X Y w => ?_, fun X Y w => ?_⟩
  all_goals
    simp only [Sem.run_bind]
    have h1 : ∀ op : BinOp, (eqGuard op t X Y (.agg x) (.agg y)).run P w = .ok () w := by
      intro op; cases op <;> simp [eqGuard, program, Sem.run, hg]
    rw [h1]
    simp only [Result.andThen_ok, binOp, Op.equal, Op.maxDepth, Sem.run_bind, he]
    rfl
instance eq_key {a b : Key} {bb : Bool} [q : BV (decide (a = b)) bb] : Eqv Try.prog 24 (.agg (kc a)) (.agg (kc b)) bb := by
  have hq := q.eq; subst hq
  exact Eqv.of_agg (by kernel_rfl) (fun w => run_equalIn_key 9998 w a b)

/-- a byte of a key -/
instance StepV.indexAddr_arr {P : Program} {f : Fr} {σ : St} {ty : TypeId} {t e : TypeId} {m b bytes i : Nat} {agg : Bool} {x ix : Operand} {k : IntKind} {j : Int} [h : Ev f x (.pointer (some ⟨b, 0, none⟩))] [g : Ev f ix (.int k j)] [u : U P t (.array m e)] [ti : TI P e agg 1 bytes] [q : ToNat j i] [l : IdxLt i m] :
    StepV P (.indexAddr t x ix) ty f σ (.pointer (some ⟨b, i, none⟩)) := ⟨by
  have hj := q.eq
  subst hj
  have hl := l.lt
  simp [execOp, h.eq, g.eq, Instr.indexAt, asIntOf, run_underlying u.h, Instr.sureAddr, ti.run_sizeOf, hl, add_at]⟩
instance LoadV.key {k : Key} {i : Nat} [l : IdxLt i 32] : LoadV (kc k) i 1 false (.int .u8 ((k[i]!).toNat : Int)) :=
  ⟨by have := l.lt; rw [kc_size]; omega, nofun, fun _ => ⟨by rw [kc_get k i l.lt, getElem!_pos k i l.lt]; rfl, rfl⟩⟩
def setB (k : Key) (i : Nat) (x : UInt8) : Key := if h : i < 32 then k.set i x else k
theorem kc_set (k : Key) (i : Nat) (h : i < 32) (x : UInt8) : putCells (kc k) i #[u8v x] = kc (setB k i x) := by
  unfold setB
  rw [dif_pos h]
  apply Array.ext_getElem?
  intro j
  simp only [putCells, List.getElem?_toArray]
  by_cases hj : j < 32
  · rw [kc_get _ j hj]
    have hlen : ((kc k).toList.take i).length = i := by simp [kc_size]; omega
    by_cases hji : j < i
    · rw [List.append_assoc, List.getElem?_append_left (by omega), List.getElem?_take, if_pos hji, Array.getElem?_toList, kc_get k j hj, Vector.getElem_set_ne _ _ (by omega)]
    · by_cases e : j = i
      · subst e
        rw [List.append_assoc, List.getElem?_append_right (by omega), hlen]
        simp
      · rw [List.getElem?_append_right (by simp [hlen]; omega)]
        simp only [List.length_append, hlen, List.length_singleton, List.getElem?_drop]
        simp only [List.size_toArray, List.length_cons, List.length_nil]
        rw [show i + (0 + 1) + (j - (i + 1)) = j by omega, Array.getElem?_toList, kc_get k j hj, Vector.getElem_set_ne _ _ (by omega)]
  · rw [List.getElem?_eq_none, Array.getElem?_eq_none (by simp [kc_size]; omega)]
    simp [kc_size]; omega
/-- one number of the kind uint8 -/
class U8 (n : Int) (x : outParam UInt8) : Prop where
  eq : n = (x.toNat : Int)
instance U8.cast {x : UInt8} : U8 (x.toNat : Int) x := ⟨rfl⟩
instance (priority := low) U8.lit {n : Nat} [h : EqB (Nat.ble n 255) true] : U8 (no_index (OfNat.ofNat n) : Int) (UInt8.ofNat n) := ⟨by
  have := Nat.le_of_ble_eq_true h.eq
  simp only [UInt8.toNat_ofNat', show (OfNat.ofNat n : Int) = (n : Int) from rfl]
  omega⟩
instance PutV.key {k : Key} {i : Nat} {n : Int} {x : UInt8} [l : IdxLt i 32] [u : U8 n x] : PutV (kc k) i #[.int .u8 n] (kc (setB k i x)) :=
  ⟨by have := l.lt; simp [kc_size]; omega, by rw [u.eq]; exact kc_set k i l.lt x⟩
/-- a key of which at most the first byte is said -/
theorem run_build_arr {P : Program} {t e : TypeId} {n size bytes : Nat} {agg : Bool} {cs cs' : Array Value} {w : World} (u : U P t (.array n e)) (ti : TI P e agg size bytes) (tz : TZ P t cs) (ps : Array (Nat × Value)) (h : Instr.fill (fun i => some (i * size, size)) cs ps.toList = some cs') :
    (Instr.build t ps).run P w = .ok (.agg cs') w := by
  obtain ⟨i, z, hi, hz, hc⟩ := tz.h
  simp [Instr.build, zeroValue, typeInfo, hi, hz, hc, run_underlying u.h, ti.run_sizeOf, h]
instance build_key0 {f : Fr} {σ : St} {ty : TypeId} : StepV Try.prog (.build 24 #[]) ty f σ (.agg (kc key0)) := ⟨by
  have := run_build_arr (w := σ.w) (inferInstance : U Try.prog 24 _) (inferInstance : TI Try.prog 5 false 1 1) tz_key #[] rfl
  simp [execOp, this]⟩
instance build_key1 {f : Fr} {σ : St} {ty : TypeId} {x : Operand} {n : Int} {b : UInt8} [h : Ev f x (.int .u8 n)] [u : U8 n b] : StepV Try.prog (.build 24 #[(0, x)]) ty f σ (.agg (kc (setB key0 0 b))) := ⟨by
  have hs := kc_set key0 0 (by omega) b
  have hn := u.eq
  subst hn
  have hz : (kc key0).size = 32 := kc_size _
  have hf : Instr.fill (fun i => some (i * 1, 1)) (kc key0) [(0, u8v b)] = some (kc (setB key0 0 b)) := by
    rw [← hs]
    have hc : (u8v b).cells = #[u8v b] := rfl
    simp only [Instr.fill, hc]
    rw [if_neg (by simp [hz])]
    simp only [Option.some.injEq]
    apply Array.ext'
    generalize kc key0 = a at hz
    obtain ⟨l⟩ := a
    match l, hz with
    | x :: l, _ => simp [putCells]
  have := run_build_arr (w := σ.w) (inferInstance : U Try.prog 24 _) (inferInstance : TI Try.prog 5 false 1 1) tz_key #[(0, u8v b)] hf
  simp only [execOp, h.eq, List.map_toArray, List.map_cons, List.map_nil]
  unfold u8v at this
  rw [Sem.run_bind, this]
  rfl⟩
end Go.Proofs.Ytchdbmnikaacdaa

/- The engine, part 10: structs: cells in pieces, their fields, numbers of fixed kinds.  -/
set_option linter.all false
namespace Go.Proofs.Ytchdbmnikaacdaa
open Go Go.RowKit
/-- cells, piece by piece -/
def cats (l : List (Array Value)) : Array Value := (l.flatMap Array.toList).toArray
theorem cats_toList (l : List (Array Value)) : (cats l).toList = l.flatMap Array.toList := rfl
theorem cats_cons (s : Array Value) (l : List (Array Value)) : (cats (s :: l)).toList = s.toList ++ (cats l).toList := rfl
theorem cats_one (s : Array Value) : cats [s] = s := by apply Array.ext'; simp [cats]
theorem cats_size (s : Array Value) (l : List (Array Value)) : (cats (s :: l)).size = s.size + (cats l).size := by
  simp [cats]
theorem cats_append (l m : List (Array Value)) : cats (l ++ m) = cats l ++ cats m := by
  apply Array.ext'; simp [cats]
instance CSz.cats0 : CSz (cats []) 0 := ⟨rfl, by simp [cats]⟩
instance CSz.cats {s : Array Value} {l : List (Array Value)} {n m : Nat} [h : CSz s n] [g : CSz (cats l) m] : CSz (cats (s :: l)) (n + m) :=
  ⟨by rw [cats_size, h.size, g.size], fun v hv => by
    rw [cats_cons] at hv
    rcases List.mem_append.1 hv with hv | hv
    · exact h.one v hv
    · exact g.one v hv⟩
theorem ge_of_ble {n o : Nat} (h : EqB (Nat.ble n o) true) : n ≤ o := Nat.le_of_ble_eq_true h.eq
theorem lt_of_nble' {n o : Nat} (h : EqB (Nat.ble n o) false) : o < n := Nat.lt_of_not_le fun k => by rw [Nat.ble_eq_true_of_le k] at h; exact absurd h.eq (by simp)
theorem take_drop_cats {s : Array Value} {l : List (Array Value)} {n : Nat} (hs : s.size = n) (o k : Nat) (h : n ≤ o) : (cats (s :: l)).extract o (o + k) = (cats l).extract (o - n) (o - n + k) := by
  apply Array.ext'
  rw [Array.toList_extract, Array.toList_extract, List.extract_eq_take_drop, List.extract_eq_take_drop, cats_cons, List.drop_append, List.drop_eq_nil_of_le (by simp; omega)]
  simp only [List.nil_append, Array.length_toList, hs]
  congr 1
  omega
/-! reading -/
instance (priority := 900) LoadV.skip {s : Array Value} {l : List (Array Value)} {n o sz : Nat} {agg : Bool} {v : Value} [h : CSz s n] [k : EqB (Nat.ble n o) true] [g : LoadV (cats l) (Nat.sub o n) sz agg v] : LoadV (cats (s :: l)) o sz agg v := by
  have hk := ge_of_ble k
  have hf := g.fit
  have hsz := h.size
  simp only [Nat.sub_eq] at hf
  refine ⟨by rw [cats_size, hsz]; omega, fun ha => ?_, fun ha => ?_⟩
  · rw [take_drop_cats hsz o sz hk]; exact g.agg_ ha
  · obtain ⟨h1, h2⟩ := g.one ha
    refine ⟨?_, h2⟩
    rw [← Array.getElem?_toList, cats_cons, List.getElem?_append_right (by simp; omega)]
    simpa [hsz] using h1
theorem loadV_first {s : Array Value} {l : List (Array Value)} {n o sz : Nat} {agg : Bool} {v : Value} (h : CSz s n) (g : LoadV s o sz agg v) : LoadV (cats (s :: l)) o sz agg v := by
  have hf := g.fit
  have hsz := h.size
  refine ⟨by rw [cats_size]; omega, fun ha => ?_, fun ha => ?_⟩
  · rw [g.agg_ ha]
    congr 1
    apply Array.ext'
    rw [Array.toList_extract, Array.toList_extract, List.extract_eq_take_drop, List.extract_eq_take_drop, cats_cons, List.drop_append_of_le_length (by simp; omega), List.take_append_of_le_length (by simp; omega)]
  · obtain ⟨h1, h2⟩ := g.one ha
    refine ⟨?_, h2⟩
    have ho : o < s.size := by omega
    rw [← Array.getElem?_toList, cats_cons, List.getElem?_append_left (by simpa using ho)]
    simpa using h1
instance (priority := 950) LoadV.first1 {s : Array Value} {l : List (Array Value)} {n sz : Nat} {o : Nat} {v : Value} [k : EqB (Nat.beq o 0) true] [h : CSz s n] [e : EqB (Nat.beq n sz) true] [g : LoadV s 0 sz true v] : LoadV (cats (s :: l)) o sz true v := by
  have := Nat.eq_of_beq_eq_true k.eq
  subst this
  exact loadV_first h g
instance (priority := 950) LoadV.first0 {w : Value} {l : List (Array Value)} {o : Nat} [k : EqB (Nat.beq o 0) true] : LoadV (cats (#[w] :: l)) o 1 false w := by
  have := Nat.eq_of_beq_eq_true k.eq
  subst this
  refine ⟨by rw [cats_size]; simp, nofun, fun _ => ⟨?_, rfl⟩⟩
  rw [← Array.getElem?_toList, cats_cons]; rfl
instance (priority := 800) LoadV.inside {s : Array Value} {l : List (Array Value)} {n o sz : Nat} {agg : Bool} {v : Value} [h : CSz s n] [k : EqB (Nat.ble n o) false] [k2 : EqB (Nat.ble n sz) false] [g : LoadV s o sz agg v] : LoadV (cats (s :: l)) o sz agg v := loadV_first h g
/-- the first pieces, as many cells as asked -/
class TakeS (l : List (Array Value)) (sz : Nat) (m : outParam (List (Array Value))) : Prop where
  h : ∃ r, l = m ++ r ∧ (cats m).size = sz
instance TakeS.zero {l : List (Array Value)} {sz : Nat} [k : EqB (Nat.beq sz 0) true] : TakeS l sz [] := ⟨l, rfl, by rw [Nat.eq_of_beq_eq_true k.eq]; rfl⟩
instance (priority := low) TakeS.succ {s : Array Value} {l m : List (Array Value)} {n sz : Nat} [h : CSz s n] [k : EqB (Nat.ble n sz) true] [g : TakeS l (Nat.sub sz n) m] : TakeS (s :: l) sz (s :: m) := by
  obtain ⟨r, e, hs⟩ := g.h
  have hk := ge_of_ble k
  refine ⟨r, by rw [e]; rfl, ?_⟩
  rw [cats_size, hs, h.size, Nat.sub_eq]; omega
instance (priority := 850) LoadV.many {s : Array Value} {l m : List (Array Value)} {n o sz : Nat} [k : EqB (Nat.beq o 0) true] [h : CSz s n] [k2 : EqB (Nat.ble sz n) false] [g : TakeS (s :: l) sz m] : LoadV (cats (s :: l)) o sz true (.agg (cats m)) := by
  have := Nat.eq_of_beq_eq_true k.eq
  subst this
  obtain ⟨r, e, hs⟩ := g.h
  rw [e, cats_append]
  refine ⟨by simp; omega, fun _ => ?_, nofun⟩
  congr 1
  apply Array.ext'
  rw [Array.toList_extract, List.extract_eq_take_drop]
  simp [hs]
/-! writing -/
instance (priority := 900) PutV.skip {s v : Array Value} {l r : List (Array Value)} {n o : Nat} [h : CSz s n] [k : EqB (Nat.ble n o) true] [g : PutV (cats l) (Nat.sub o n) v (cats r)] : PutV (cats (s :: l)) o v (cats (s :: r)) := by
  have hk := ge_of_ble k
  have hf := g.fit
  have hsz := h.size
  simp only [Nat.sub_eq] at hf
  refine ⟨by rw [cats_size, hsz]; omega, ?_⟩
  have he := g.eq
  have hsl : s.toList.length = n := by simpa using hsz
  apply Array.ext'
  rw [cats_cons, ← he]
  simp only [putCells, cats_cons, Nat.sub_eq, List.toList_toArray]
  rw [List.take_append, List.drop_append, List.take_of_length_le (by omega), List.drop_eq_nil_of_le (by omega : s.toList.length ≤ o + v.size), hsl]
  simp only [List.nil_append, List.append_assoc]
  congr 4
  omega
theorem putV_first {s s' v : Array Value} {l : List (Array Value)} {n o : Nat} (h : CSz s n) (h' : s'.size = n) (g : PutV s o v s') : PutV (cats (s :: l)) o v (cats (s' :: l)) := by
  have hf := g.fit
  have hsz := h.size
  refine ⟨by rw [cats_size]; omega, ?_⟩
  apply Array.ext'
  rw [cats_cons, ← g.eq]
  simp only [putCells, cats_cons]
  rw [List.take_append_of_le_length (by simp; omega), List.drop_append_of_le_length (by simp; omega)]
  simp
theorem putCells_size {cs v : Array Value} {o : Nat} (h : o + v.size ≤ cs.size) : (putCells cs o v).size = cs.size := by
  simp [putCells]; omega
instance (priority := 850) PutV.first {s v : Array Value} {l : List (Array Value)} {n o : Nat} [k : EqB (Nat.beq o 0) true] [h : CSz s n] [h' : CSz v n] : PutV (cats (s :: l)) o v (cats (v :: l)) := by
  have := Nat.eq_of_beq_eq_true k.eq
  subst this
  exact putV_first h h'.size ⟨by rw [h.size, h'.size]; omega, putCells_whole (by rw [h.size, h'.size])⟩
instance (priority := 800) PutV.inside {s s' v : Array Value} {l : List (Array Value)} {n o : Nat} [h : CSz s n] [k : EqB (Nat.ble n o) false] [g : PutV s o v s'] : PutV (cats (s :: l)) o v (cats (s' :: l)) :=
  putV_first h (by rw [← g.eq, putCells_size g.fit, h.size]) g
instance PutV.nil {l : List (Array Value)} {o : Nat} [k : EqB (Nat.beq o 0) true] : PutV (cats l) o (cats []) (cats l) := by
  have := Nat.eq_of_beq_eq_true k.eq
  subst this
  exact ⟨by simp [cats], by apply Array.ext'; simp [putCells, cats]⟩
instance (priority := 950) PutV.many {s v : Array Value} {l r w : List (Array Value)} {n o : Nat} [k : EqB (Nat.beq o 0) true] [h : CSz s n] [h' : CSz v n] [g : PutV (cats l) 0 (cats w) (cats r)] : PutV (cats (s :: l)) o (cats (v :: w)) (cats (v :: r)) := by
  have := Nat.eq_of_beq_eq_true k.eq
  subst this
  have hf := g.fit
  refine ⟨by rw [cats_size, cats_size, h.size, h'.size]; omega, ?_⟩
  apply Array.ext'
  rw [cats_cons, ← g.eq]
  simp only [putCells, cats_cons, List.take_zero, List.nil_append, Nat.zero_add, cats_size, h'.size]
  rw [List.drop_append, List.drop_eq_nil_of_le (by simp [h.size])]
  simp [h.size]
/-! numbers of fixed kinds -/
class U32 (n : Int) (x : outParam UInt32) : Prop where
  eq : n = (x.toNat : Int)
instance U32.cast {x : UInt32} : U32 (x.toNat : Int) x := ⟨rfl⟩
instance (priority := low) U32.lit {n : Nat} [h : EqB (Nat.ble n 4294967295) true] : U32 (no_index (OfNat.ofNat n) : Int) (UInt32.ofNat n) := ⟨by
  have := Nat.le_of_ble_eq_true h.eq
  simp only [UInt32.toNat_ofNat', show (OfNat.ofNat n : Int) = (n : Int) from rfl]
  omega⟩
instance (priority := 50) U32.fit {n : Int} [h : Fits .u32 n] : U32 n (UInt32.ofNat n.toNat) := ⟨by
  have := h.eq
  rw [IntKind.wrap_u32] at this
  simp only [UInt32.toNat_ofNat']
  omega⟩
class I64 (n : Int) (x : outParam Int64) : Prop where
  eq : n = x.toInt
instance I64.cast {x : Int64} : I64 x.toInt x := ⟨rfl⟩
instance (priority := 50) I64.fit {n : Int} [h : Fits .i64 n] : I64 n (Int64.ofInt n) := ⟨by
  have := h.eq
  rw [IntKind.wrap_i64] at this
  rw [Int64.toInt_ofInt]
  show n = Int.bmod n 18446744073709551616
  rw [Int.bmod_eq_of_le] <;> omega⟩
instance (priority := low) I64.lit {n : Nat} [h : EqB (Nat.ble n 9223372036854775807) true] : I64 (no_index (OfNat.ofNat n) : Int) (Int64.ofInt (n : Int)) := ⟨by
  have h1 := Nat.le_of_ble_eq_true h.eq
  show (n : Int) = (Int64.ofInt (n : Int)).toInt
  rw [Int64.toInt_ofInt]
  show (n : Int) = Int.bmod (n : Int) 18446744073709551616
  rw [Int.bmod_eq_of_le] <;> omega⟩
instance Fits.u32c {x : UInt32} : Fits .u32 (x.toNat : Int) := ⟨by rw [IntKind.wrap_u32]; have := x.toNat_lt; omega⟩
instance Fits.i64c {x : Int64} : Fits .i64 x.toInt := ⟨by rw [IntKind.wrap_i64]; have := x.toInt_lt; have := x.le_toInt; omega⟩
/-- a value stands for x -/
class ValOf {α : Type} (E : Elem α) (v : Value) (x : outParam α) : Prop where
  eq : v = E.val x
/-- nothing is to be known of it beyond its cells -/
class Plain {α : Type} (E : Elem α) : Prop where
  ok : ∀ σ x, E.ok σ x
instance (priority := low) OkE.plain {σ : St} {α : Type} {E : Elem α} {x : α} [h : Plain E] : OkE σ E x := ⟨h.ok σ x⟩
instance (priority := low) EncV.val {σ : St} {α : Type} {E : Elem α} {v : Value} {x : α} [h : ValOf E v x] [k : OkE σ E x] : EncV σ E v x := ⟨h.eq, k.h⟩
/-! equality -/
theorem u32_beq {x y : UInt32} : ((x.toNat : Int) == (y.toNat : Int)) = decide (x = y) := by
  rw [Bool.eq_iff_iff]
  simp only [beq_iff_eq, decide_eq_true_eq]
  exact ⟨fun h => UInt32.toNat_inj.1 (by omega), fun h => by rw [h]⟩
theorem i64_beq {x y : Int64} : (x.toInt == y.toInt) = decide (x = y) := by
  rw [Bool.eq_iff_iff]
  simp only [beq_iff_eq, decide_eq_true_eq]
  exact ⟨fun h => Int64.toInt_inj.1 h, fun h => by rw [h]⟩
theorem bool_beq {x y : Bool} : (x == y) = decide (x = y) := by cases x <;> cases y <;> rfl
/-- '==' at the type of these elements -/
class EqD (P : Program) (t : TypeId) {α : Type} (E : Elem α) [DecidableEq α] (k : outParam Nat) : Prop where
  run : ∀ (d : Nat) (w : World) (a b : α), (Op.equalIn (d + k) t (E.val a) (E.val b)).run P w = .ok (decide (a = b)) w
  gd : P.eqGuardType P.depth t = false
theorem eqFields_cons {P : Program} {d : Nat} {w : World} {xs ys : Array Value} {g : Field} {fs : List Field} {v1 v2 : Value} {b c : Bool} (hn : (g.name != "_") = true) (h1 : (part g.type xs g.offset).run P w = .ok v1 w) (h2 : (part g.type ys g.offset).run P w = .ok v2 w)
    (he : (Op.equalIn d g.type v1 v2).run P w = .ok b w) (hr : (Op.eqFields d xs ys fs).run P w = .ok c w) : (Op.eqFields d xs ys (g :: fs)).run P w = .ok (b && c) w := by
  have hn' : g.name ≠ "_" := by simpa using hn
  unfold Op.eqFields
  simp only [Sem.run_ite, hn', ne_eq, not_false_eq_true, if_true, Sem.run_bind, h1, h2, he, Result.andThen_ok]
  cases b <;> simp [hr]
theorem eqFields_nil {P : Program} {d : Nat} {w : World} {xs ys : Array Value} : (Op.eqFields d xs ys []).run P w = .ok true w := by simp [Op.eqFields]
instance (priority := 90) Eqv.ofD {P : Program} {t : TypeId} {α : Type} {E : Elem α} [DecidableEq α] {k : Nat} {cs ds : Array Value} {x y : α} {bb : Bool} {bytes : Nat} [eo : ElemOf P t E bytes] [e : EqD P t E k] [kl : EqB (Nat.ble k 10000) true] [h : ValOf E (.agg cs) x] [g : ValOf E (.agg ds) y] [q : BV (decide (x = y)) bb] : Eqv P t (.agg cs) (.agg ds) bb := by
  have hq := q.eq; subst hq
  have hk := Nat.le_of_ble_eq_true kl.eq
  exact Eqv.of_agg e.gd (fun w => by
    have := e.run (10000 - k) w x y
    rw [Nat.sub_add_cancel hk, ← h.eq, ← g.eq] at this
    exact this)
/-! fields -/
/-- where a field lies, and its type -/
class FO (P : Program) (t : TypeId) (i : Nat) (off ft : outParam Nat) : Prop where
  h : ∃ fs f, P.underlying t = some (.struct fs) ∧ fs[i]? = some f ∧ f.offset = off ∧ f.type = ft
theorem FO.mk_ {P : Program} {t : TypeId} {fs : Array Field} {i off ft : Nat} {f : Field} (u : P.underlying t = some (.struct fs)) (h : fs[i]? = some f) (h1 : f.offset = off) (h2 : f.type = ft) : FO P t i off ft := ⟨fs, f, u, h, h1, h2⟩
class PosSz (n : Nat) : Prop where
  h : 0 < n
instance PosSz.of {n : Nat} [k : EqB (Nat.beq n 0) false] : PosSz n := ⟨by have := ne_of_beq_f k.eq; omega⟩
def slotF (A : Option Addr) (o : Nat) : Value := .pointer (A.map (·.add o))
section
variable {P : Program} {f : Fr} {σ : St} {ty t ft : TypeId} {b off fo sz bytes i : Nat} {agg : Bool} {A : Option Addr} {n c : Nat} {α : Type} {E : Elem α} {xs : List α}
theorem run_field {cs : Array Value} {v : Value} (ti : TI P ft agg sz bytes) (l : LoadV cs fo sz agg v) (w : World) : (part ft cs fo).run P w = .ok v w := by
  unfold part
  rw [Sem.run_bind, ti.run_isAgg]
  cases agg with
  | true => simp [ti.run_sizeOf, l.agg_ rfl]
  | false =>
    obtain ⟨h1, h2⟩ := l.one rfl
    simp [h1]
instance StepV.field {x : Operand} {cs : Array Value} {v : Value} [h : Ev f x (.agg cs)] [fd : FO P t i fo ft] [ti : TI P ft agg sz bytes] [l : LoadV cs fo sz agg v] : StepV P (.field t x i) ty f σ v := ⟨by
  obtain ⟨fs, g, hu, hi, h1, h2⟩ := fd.h
  subst h1; subst h2
  have hr := run_field ti l σ.w
  have ha : asAgg (Value.agg cs) = pure cs := rfl
  simp [execOp, h.eq, Instr.field, run_underlying hu, hi, ha, hr]⟩
class AddN (a b : Nat) (c : outParam Nat) : Prop where
  h : a + b = c
instance AddN.z {b : Nat} : AddN 0 b b := ⟨by omega⟩
instance (priority := low) AddN.of {a b : Nat} : AddN a b (Nat.add a b) := ⟨rfl⟩
instance StepV.fieldAddr {x : Operand} {o2 : Nat} [h : Ev f x (.pointer (some ⟨b, off, none⟩))] [fd : FO P t i fo ft] [ti : TI P ft agg sz bytes] [p : PosSz sz] [q : AddN off fo o2] : StepV P (.fieldAddr t x i) ty f σ (.pointer (some ⟨b, o2, none⟩)) := ⟨by
  obtain ⟨fs, g, hu, hi, h1, h2⟩ := fd.h
  subst h1; subst h2
  have hq := q.h; subst hq
  have hp := p.h
  have hz : ¬ sz = 0 := by omega
  have ha : (⟨b, off, none⟩ : Addr).add g.offset = ⟨b, off + g.offset, none⟩ := add_at _ _ _
  simp [execOp, h.eq, Instr.fieldAt, run_underlying hu, hi, Instr.sureAddr, fieldPlace, ti.run_sizeOf, hz, ha]⟩
/-- a field of an element of a slice -/
instance StepV.fieldAddr_slot {x : Operand} {j : Nat} [h : Ev f x (slotV E A j)] [r : Rd σ A n c E xs] [l : IdxLt j n] [fd : FO P t i fo ft] [ti : TI P ft agg sz bytes] [p : PosSz sz] : StepV P (.fieldAddr t x i) ty f σ (slotF A (j * E.sz + fo)) := ⟨by
  obtain ⟨fs, g, hu, hi, h1, h2⟩ := fd.h
  subst h1; subst h2
  have hp := p.h
  have hz : ¬ sz = 0 := by omega
  have hl := l.lt
  rcases r.rd with h0 | ⟨b, o, ha, _⟩
  · omega
  subst ha
  simp [execOp, h.eq, slotV, slotF, Instr.fieldAt, run_underlying hu, hi, Instr.sureAddr, fieldPlace, ti.run_sizeOf, hz, add_at, Nat.add_assoc]⟩
instance StepV.fieldAddr_slotF {x : Operand} {j o1 : Nat} [h : Ev f x (slotF A (j * E.sz + o1))] [r : Rd σ A n c E xs] [l : IdxLt j n] [fd : FO P t i fo ft] [ti : TI P ft agg sz bytes] [p : PosSz sz] {o2 : Nat} [q : AddN o1 fo o2] : StepV P (.fieldAddr t x i) ty f σ (slotF A (j * E.sz + o2)) := ⟨by
  obtain ⟨fs, g, hu, hi, h1, h2⟩ := fd.h
  subst h1; subst h2
  have hq := q.h; subst hq
  have hp := p.h
  have hz : ¬ sz = 0 := by omega
  have hl := l.lt
  rcases r.rd with h0 | ⟨b, o, ha, _⟩
  · omega
  subst ha
  simp [execOp, h.eq, slotF, Instr.fieldAt, run_underlying hu, hi, Instr.sureAddr, fieldPlace, ti.run_sizeOf, hz, add_at, Nat.add_assoc]⟩
theorem run_loadVar_base {w : World} {base : Nat} {cs : Array Value} {v : Value} (ti : TI P t agg sz bytes)
    (h : ∀ j, j < sz → w.cell? ⟨b, base + off + j, none⟩ = cs[off + j]?) (l : LoadV cs off sz agg v) : (loadVar t ⟨b, base + off, none⟩).run P w = .ok v w := by
  unfold loadVar
  rw [Sem.run_bind, ti.run_isAgg]
  simp only [Result.andThen_ok]
  cases agg with
  | true =>
    simp only [if_true, Sem.run_bind, ti.run_sizeOf, Result.andThen_ok]
    have hl : ((cs.extract off (off + sz)).toList).length = sz := by have := l.fit; simp; omega
    have hh : ∀ j v, ((cs.extract off (off + sz)).toList)[j]? = some v → w.cell? ((⟨b, base + off, none⟩ : Addr).add j) = some v := by
      intro j v hj
      have hjl : j < sz := by
        have := (List.getElem?_eq_some_iff.1 hj).1; omega
      rw [add_at, h j hjl]
      rw [Array.getElem?_toList, Array.getElem?_extract] at hj
      split at hj
      · exact hj
      · cases hj
    have := run_loadCells_list (P := P) w ⟨b, base + off, none⟩ _ hh
    rw [hl, Array.toArray_toList] at this
    simp only [this, Result.andThen_ok, l.agg_ rfl]
    rfl
  | false =>
    obtain ⟨h1, h2⟩ := l.one rfl
    have := h 0 (by omega)
    simp only [Nat.add_zero] at this
    simp [load, Sem.run, this, h1]
instance StepV.load_slotF [Inhabited α] {x : Operand} {j : Nat} {val : α → Value} {cs : Array Value} {v : Value} [h : Ev f x (slotF A (j * E.sz + fo))] [r : Rd σ A n c E xs] [l : IdxLt j n] [ti : TI P t agg sz bytes] [fv : FlatV E val] [cc : Cells (val xs[j]!) cs] [lv : LoadV cs fo sz agg v] : StepV P (.load t x) ty f σ v := ⟨by
  obtain ⟨b, o, rfl, hc⟩ := r.cells l.lt
  have e1 : (E.val xs[j]!).cells = cs := by rw [fv.eq]; exact cc.eq
  have hfit := lv.fit
  have hsz : cs.size = E.sz := by rw [← e1]; exact E.size _
  have hr := run_loadVar_base (P := P) (w := σ.w) ti (b := b) (base := o + j * E.sz) (off := fo) (cs := cs) (v := v) (fun q hq => by
    have := hc (fo + q) (by omega)
    rw [e1] at this
    rw [Nat.add_assoc]; exact this) lv
  rw [Nat.add_assoc] at hr
  simp only [execOp, h.eq, slotF, Option.map_some, add_at, Instr.loadAt, Instr.sureAddr, Sem.run_bind, Sem.run_pure, Result.andThen_ok, hr]⟩
/-- a struct of which these fields are told -/
class BuildF (P : Program) (t : TypeId) (f : Fr) (cs : Array Value) (ps : List (Nat × Operand)) (cs' : outParam (Array Value)) : Prop where
  h : ∀ (fs : Array Field) (place : Nat → Option (Nat × Nat)), P.underlying t = some (.struct fs) → (∀ (i : Nat) (g : Field) (s : Nat), fs[i]? = some g → (∀ w, (sizeOf g.type).run P w = .ok s w) → place i = some (g.offset, s)) →
    Instr.fill place cs (ps.map fun p => (p.1, evo f p.2)) = some cs'
instance BuildF.nil {cs : Array Value} : BuildF P t f cs [] cs := ⟨fun _ _ _ _ => rfl⟩
theorem fill_one {place : Nat → Option (Nat × Nat)} {cs vs cs' : Array Value} {i o s : Nat} {v : Value} {rest : List (Nat × Value)} (hp : place i = some (o, s)) (hv : v.cells = vs) (hs : vs.size = s) (g : PutV cs o vs cs') : Instr.fill place cs ((i, v) :: rest) = Instr.fill place cs' rest := by
  have hf := g.fit
  simp only [Instr.fill, hp, hv]
  rw [if_neg (by simp [hs]; omega)]
  congr 1
  rw [← g.eq]
  have gen : ∀ (us : List Value) (k : Nat) (a : Array Value), o + k + us.length ≤ a.size → (us.zipIdx k).foldl (fun a (c, j) => a.setIfInBounds (o + j) c) a = (a.toList.take (o + k) ++ us ++ a.toList.drop (o + k + us.length)).toArray := by
    intro us
    induction us with
    | nil => intro k a _; simp
    | cons c us ih =>
      intro k a hle
      rw [List.zipIdx_cons, List.foldl_cons, ih (k + 1) _ (by simp at hle ⊢; omega)]
      have e := list_seg_step a.toList (o + k) c us (by simp at hle ⊢; omega)
      simpa [Array.toList_setIfInBounds, Nat.add_assoc] using congrArg List.toArray e
  have := gen vs.toList 0 cs (by simpa using hf)
  simp only [Nat.add_zero] at this
  rw [← Array.foldl_toList]
  simpa [putCells] using this
instance BuildF.cons {cs vs cs1 cs' : Array Value} {x : Operand} {v : Value} {ps : List (Nat × Operand)} [fd : FO P t i fo ft] [ti : TI P ft agg sz bytes] [h : Ev f x v] [c : Cells v vs] [zE : CSzE vs sz] [p : PutV cs fo vs cs1] [g : BuildF P t f cs1 ps cs'] : BuildF P t f cs ((i, x) :: ps) cs' := ⟨fun fs place hu hp => by
  have z := zE.z
  obtain ⟨fs', gf, hu', hi, h1, h2⟩ := fd.h
  rw [hu] at hu'; injection hu' with hu'; injection hu' with hu'; subst hu'
  subst h1; subst h2
  rw [List.map_cons, fill_one (hp i gf sz hi (fun w => ti.run_sizeOf w)) (by rw [h.eq]; exact c.eq) z.size p]
  exact g.h fs place hu hp⟩
/-- all field types are known -/
class AllTI (P : Program) (t : TypeId) : Prop where
  h : ∃ fs pl, P.underlying t = some (.struct fs) ∧ (∀ w, (fs.mapM (fun (g : Field) => (Prod.mk g.offset <$> sizeOf g.type : Sem (Nat × Nat)))).run P w = .ok pl w) ∧ ∀ (i : Nat) (g : Field), fs[i]? = some g → ∃ s, (∀ w, (sizeOf g.type).run P w = .ok s w) ∧ pl[i]? = some (g.offset, s)
theorem AllTI.mk_ {P : Program} {t : TypeId} {fs : Array Field} (hu : P.underlying t = some (.struct fs)) (hs : ∀ g ∈ fs.toList, ∃ s, ∀ w, (sizeOf g.type).run P w = .ok s w) : AllTI P t := by
  have key : ∀ l : List Field, (∀ g ∈ l, ∃ s, ∀ w, (sizeOf g.type).run P w = .ok s w) → ∃ pl : List (Nat × Nat), (∀ w, (l.mapM (fun (g : Field) => (Prod.mk g.offset <$> sizeOf g.type : Sem (Nat × Nat)))).run P w = .ok pl w) ∧ pl.length = l.length ∧ ∀ (i : Nat) (g : Field), l[i]? = some g → ∃ s, (∀ w, (sizeOf g.type).run P w = .ok s w) ∧ pl[i]? = some (g.offset, s) := by
    intro l
    induction l with
    | nil => intro _; exact ⟨[], fun w => by simp, rfl, by simp⟩
    | cons g l ih =>
      intro h
      obtain ⟨s, hs⟩ := h g (by simp)
      obtain ⟨pl, h1, h2, h3⟩ := ih (fun q hq => h q (by simp [hq]))
      refine ⟨(g.offset, s) :: pl, fun w => ?_, by simp [h2], fun i q hq => ?_⟩
      · simp only [List.mapM_cons, Sem.run_bind, Sem.run_map, hs, Result.andThen_ok, Sem.run_pure, h1]
      · cases i with
        | zero => simp at hq; subst hq; exact ⟨s, hs, rfl⟩
        | succ i => simpa using h3 i q (by simpa using hq)
  obtain ⟨pl, h1, h2, h3⟩ := key fs.toList hs
  refine ⟨fs, pl.toArray, hu, fun w => ?_, fun i g hg => ?_⟩
  · rw [← Array.toArray_toList (xs := fs), List.mapM_toArray]
    simp only [Sem.run_bind, Sem.run_map, h1, Result.andThen_ok, Sem.run_pure]
  · obtain ⟨s, a, b⟩ := h3 i g (by simpa using hg)
    exact ⟨s, a, by simpa using b⟩
instance StepV.build {cs cs' : Array Value} {ps : List (Nat × Operand)} [tz : TZ P t cs] [al : AllTI P t] [g : BuildF P t f cs ps cs'] : StepV P (.build t ps.toArray) ty f σ (.agg cs') := ⟨by
  obtain ⟨i, z, hi, hz, hc⟩ := tz.h
  obtain ⟨fs, pl, hu, hpl, hat⟩ := al.h
  have hf := g.h fs (pl[·]?) hu (fun i g s hg hs => by
    obtain ⟨s', h1, h2⟩ := hat i g hg
    have := (hs σ.w).symm.trans (h1 σ.w)
    injection this with this
    rw [this]; exact h2)
  simp [execOp, Instr.build, zeroValue, typeInfo, hi, hz, hc, run_underlying hu, hpl, hf]⟩
theorem put_in {p c q vs : List Value} {k f : Nat} (hp : p.length = k) (hf : f + vs.length ≤ c.length) :
    (p ++ c ++ q).take (k + f) ++ vs ++ (p ++ c ++ q).drop (k + f + vs.length) = p ++ (c.take f ++ vs ++ c.drop (f + vs.length)) ++ q := by
  subst hp
  rw [List.append_assoc p c q, Nat.add_assoc, List.take_length_add_append, List.drop_length_add_append, List.take_append_of_le_length (by omega), List.drop_append_of_le_length (by omega)]
  simp [List.append_assoc]
/-- a field of an element of a row is written -/
instance Step.store_slotF [Inhabited α] {x y : Operand} {j : Nat} {val : α → Value} {cs vs cs' : Array Value} {v : Value} {w : α} {e : TypeId} {eb : Nat} [h : Ev f x (slotF A (j * E.sz + fo))] [h2 : Ev f y v] [r : Row σ A n c e E xs] [l : IdxLt j n] [eo : ElemOf P e E eb] [ti : TI P t agg sz bytes] [fv : FlatV E val] [cc : Cells (val xs[j]!) cs] [cv : Cells v vs] [czE : CSzE vs sz] [pv : PutV cs fo vs cs'] [en : EncV σ E (.agg cs') w] :
    Step P (.store t x y) ty f σ (fun K _ => ∀ σ' : St, Nx σ σ' (.row A e) → Row σ' A n c e E (xs.set j w) → K undef σ') := ⟨fun K E' hK => by
  have cz := czE.z
  have hl := l.lt
  have hlen := r.len
  have hle := r.le
  rcases r.full with ⟨_, hn⟩ | ⟨b, zs, ea, hh, hzl, hzt, hzok⟩
  · omega
  subst ea
  have e1 : (E.val xs[j]!).cells = cs := by rw [fv.eq]; exact cc.eq
  have hsz : cs.size = E.sz := by rw [← e1]; exact E.size _
  have hw : (E.val w).cells = cs' := by rw [← en.eq]; rfl
  have hpf := pv.fit
  have hxj : zs[j]? = some xs[j]! := by
    have h1 : xs[j]? = some xs[j]! := by rw [getElem!_pos xs j (by omega)]; exact List.getElem?_eq_getElem _
    have h2 : zs[j]? = xs[j]? := by rw [← hzt, List.getElem?_take, if_pos hl]
    rw [h2]; exact h1
  have e0 : E.flat [w] = cs'.toList := by simp [Elem.flat, hw]
  have ecs : E.flat [xs[j]!] = cs.toList := by rw [← e1]; simp [Elem.flat]
  have hz : E.flat zs = E.flat (zs.take j) ++ cs.toList ++ E.flat (zs.drop (j + 1)) := by
    have h3 := (List.take_append_drop j zs).symm
    have h4 : zs.drop j = [xs[j]!] ++ zs.drop (j + 1) := by
      rw [List.drop_eq_getElem_cons (by omega)]
      rw [List.getElem?_eq_getElem (by omega)] at hxj
      injection hxj with hxj
      rw [hxj]; rfl
    rw [h4, ← List.append_assoc] at h3
    have h5 := congrArg E.flat h3
    rw [E.flat_append, E.flat_append, ecs] at h5
    exact h5
  have hl1 : (E.flat (zs.take j)).length = j * E.sz := by rw [E.flat_length]; congr 1; simp; omega
  have hput : PutV (E.flat zs).toArray (j * E.sz + fo) vs (E.flat (zs.take j ++ [w] ++ zs.drop (j + 1))).toArray := by
    refine ⟨by rw [E.flat_size]; have : (j + 1) * E.sz ≤ zs.length * E.sz := Nat.mul_le_mul_right _ (by omega)
               rw [Nat.add_mul] at this; omega, ?_⟩
    apply Array.ext'
    have hpi := put_in (p := E.flat (zs.take j)) (c := cs.toList) (q := E.flat (zs.drop (j + 1))) (vs := vs.toList) (f := fo) hl1 (by simpa using hpf)
    rw [E.flat_append, E.flat_append, e0, ← pv.eq]
    simp only [putCells, List.toList_toArray, hz]
    simpa using hpi
  have hst := run_storeVar_own (P := P) (w := σ.w) ti (b := b) (off := j * E.sz + fo) (v := v) cv cz hh hput
  have hset : zs.take j ++ [w] ++ zs.drop (j + 1) = zs.set j w := by
    rw [List.set_eq_take_append_cons_drop, if_pos (by omega), List.append_assoc]; rfl
  obtain ⟨σ', hw', hnx, hrow⟩ := r.set_ (n' := n) (zs' := zs.take j ++ [w] ++ zs.drop (j + 1)) (ys := xs.set j w) rfl hh (by rw [hset]; simpa using hzl) (by rw [hset, List.take_set, hzt]) hle (fun z' hz' => by
    rw [hset] at hz'
    rcases List.mem_or_eq_of_mem_set hz' with h | rfl
    · exact hzok z' h
    · exact en.ok)
  have hr : (execOp (evo f) ⟨none, .store t x y, ty, "", #[], none⟩).run P σ.w = .ok .skip (σ.w.setRow b (E.flat (zs.take j ++ [w] ++ zs.drop (j + 1))).toArray) := by
    simp [execOp, h.eq, h2.eq, slotF, add_at, Instr.storeAt, Instr.sureAddr, hst]
  unfold OpW; rw [hr]
  exact ⟨σ', hw', hK σ' ⟨hnx⟩ hrow⟩⟩
end
end Go.Proofs.Ytchdbmnikaacdaa

/- The engine, part 11: results of every shape; what can be read as long as nothing turns; methods bound to what they are of.  -/
set_option linter.all false
namespace Go.Proofs.Ytchdbmnikaacdaa
open Go Go.RowKit
section
variable {P : Program} {σ σ' σ0 : St} {f : Fr} {fn : Func} {K : KV} {E : KE}
class ResV (P : Program) (σ : St) (f : Fr) (r : ResultVar) (v : outParam Value) : Prop where
  run : ∀ a : Act, fr a = f → (match r with | .tmp t => pure (a.tmps.getD t undef) | .cell p ty => (do loadVar ty (← asAddr (a.tmps.getD p undef))) : Sem Value).run P σ.w = .ok v σ.w
instance ResV.tmp {j : Nat} {v : Value} [h : At f j v] : ResV P σ f (.tmp j) v := ⟨fun a ha => by
  subst ha; have := h.eq; unfold fr at this; simp only [this, Sem.run_pure]⟩
instance ResV.cell {p b : Nat} {ty t0 : TypeId} {cs : Array Value} {agg : Bool} {sz bytes : Nat} {v : Value} [h : At f p (.pointer (some ⟨b, 0, none⟩))] [o : Own σ b t0 cs] [ti : TI P ty agg sz bytes] [l : LoadV cs 0 sz agg v] : ResV P σ f (.cell p ty) v := ⟨fun a ha => by
  subst ha; have := h.eq; unfold fr at this
  have ha : (asAddr (.pointer (some (⟨b, 0, none⟩ : Addr)))) = pure ⟨b, 0, none⟩ := rfl
  simp only [this, ha, Sem.run_bind, Sem.run_pure, Result.andThen_ok, run_loadVar_cells ti (fun j _ => cell_own o.h _) l]⟩
class ResL (P : Program) (σ : St) (f : Fr) (rs : List ResultVar) (vs : outParam (List Value)) : Prop where
  run : ∀ a : Act, fr a = f → (rs.mapM fun r => (match r with | .tmp t => pure (a.tmps.getD t undef) | .cell p ty => (do loadVar ty (← asAddr (a.tmps.getD p undef))) : Sem Value)).run P σ.w = .ok vs σ.w
instance ResL.nil : ResL P σ f [] [] := ⟨fun a _ => by simp⟩
instance ResL.cons {r : ResultVar} {rs : List ResultVar} {v : Value} {vs : List Value} [h : ResV P σ f r v] [g : ResL P σ f rs vs] : ResL P σ f (r :: rs) (v :: vs) := ⟨fun a ha => by
  simp only [List.mapM_cons, Sem.run_bind, h.run a ha, g.run a ha, Result.andThen_ok, Sem.run_pure]⟩
class RetV (vs : List Value) (v : outParam Value) : Prop where
  eq : (if h : vs.toArray.size = 1 then vs.toArray[0] else .tuple vs.toArray) = v
instance RetV.none_ : RetV [] (.tuple #[]) := ⟨rfl⟩
instance RetV.one {v : Value} : RetV [v] v := ⟨rfl⟩
instance RetV.two {a b : Value} {l : List Value} : RetV (a :: b :: l) (.tuple (a :: b :: l).toArray) := ⟨by simp⟩
theorem resL_run {rs : List ResultVar} {vs : List Value} {v : Value} (hr : fn.results = rs.toArray) [h : ResL P σ f rs vs] [r : RetV vs v] (a : Act) (ha : fr a = f) : (results fn a.tmps).run P σ.w = .ok v σ.w := by
  unfold results
  rw [hr, List.mapM_toArray]
  simp only [Sem.run_bind, Sem.run_map, Sem.run_pure]
  refine (congrArg (fun q => Result.andThen (Result.andThen q _) _) (h.run a ha)).trans ?_
  simp only [Result.andThen_ok]
  rw [← r.eq]
class IsEnd (e : Exit) : Prop where
  h : e = .ret ∨ e = .normal
instance : IsEnd .ret := ⟨.inl rfl⟩
instance : IsEnd .normal := ⟨.inr rfl⟩
theorem resN {e : Exit} {rs : List ResultVar} {vs : List Value} {v : Value} [i : IsEnd e] (hr : fn.results = rs.toArray) [h : ResL P σ f rs vs] [r : RetV vs v] (hk : K v σ) : resQ P fn K E e [] f σ :=
  resQ_mk i.h (fun a ha => resL_run hr a ha) ⟨σ, rfl, hk⟩
theorem backN {e : Exit} {rs : List ResultVar} {vs : List Value} {v : Value} [i : IsEnd e] (hr : fn.results = rs.toArray) [h : ResL P σ f rs vs] [r : RetV vs v] [s : Sub σ0 σ] (hk : ∀ σ', Nx σ0 σ' .no → Bk σ0 σ σ' → K v σ') : resQ P fn K E e [] f σ := by
  obtain ⟨σ', hw, hn, hwk⟩ := s.back
  exact resQ_mk i.h (fun a ha => resL_run hr a ha) ⟨σ', hw, hk σ' hn hwk⟩
end
section
variable {P : Program} {σ σ' : St} {f : Fr} {ty : TypeId} {A : Option Addr} {n c : Nat} {α : Type} {E : Elem α} {xs : List α} {t : TypeId}
instance StepV.nilCheck {x : Operand} {a : Addr} [h : Ev f x (.pointer (some a))] : StepV P (.nilCheck x) ty f σ (.pointer (some a)) := ⟨by simp [execOp, h.eq]⟩
instance (priority := low) ValRule.bound {g : FuncId} {fst args cap all1 all : List Value} {S : Tr} [i : Fnc P g] [ap : AppL fst args all1] [ap2 : AppL all1 cap all] [r : CallRule P g all σ S] : ValRule P (.func (.func g) (List.toArray fst) (List.toArray cap)) args σ S :=
  ⟨fun K E h => ⟨_, _, _, rfl, g, rfl, i, by have := r.sound K E h; rw [← ap2.eq, ← ap.eq] at this; simpa using this⟩⟩
/-- what can be read, as long as nothing that was there turns -/
class RdN (σ : St) (A : Option Addr) (n c : outParam Nat) {α : outParam Type} (E : outParam (Elem α)) (xs : outParam (List α)) : Prop where
  h : ∀ σ' : St, NxP σ σ' .no → Rd σ' A n c E xs
instance RdN.ofSL [h : SL σ A n c E xs] : RdN σ A n c E xs := ⟨fun σ' nx => by
  haveI := h.nx nx
  infer_instance⟩
instance RdN.ofRow [h : Row σ A n c t E xs] : RdN σ A n c E xs := ⟨fun σ' nx => by
  haveI := h.lift nx (fun _ _ h => h)
  infer_instance⟩
instance (priority := low) RdN.lift [nx : Nx σ σ' .no] [h : RdN σ A n c E xs] : RdN σ' A n c E xs := ⟨fun σ2 n2 => h.h σ2 (nx.p.comp n2 (fun _ _ h => h))⟩
instance (priority := low) Rd.ofN [h : RdN σ A n c E xs] : Rd σ A n c E xs := h.h σ (NxP.refl σ)
instance RdN.cut {l u : Nat} [h : RdN σ A n c E xs] [a1 : LeN l u] [a2 : LeN u n] : RdN σ (cutA E A l u c) (u - l) (c - l) E ((xs.drop l).take (u - l)) := ⟨fun σ' nx => by
  haveI := h.h σ' nx
  exact Rd.cut⟩
theorem Rd.okAt [Inhabited α] (h : Rd σ A n c E xs) {i : Nat} (hi : i < n) : OkE σ E xs[i]! := ⟨h.ok _ (by rw [getElem!_pos xs i (by rw [h.len]; exact hi)]; exact List.getElem_mem _)⟩
end
/-! append to what nobody writes, where it has no room: a new row -/
class Grow (c k : Nat) : Prop where
  lt : c < k
instance Grow.lit {c k : Nat} [h : EqB (Nat.ble k c) false] : Grow c k := ⟨lt_of_nble' h⟩
section
variable {P : Program} {σ : St} {f : Fr} {ty t e : TypeId} {A B : Option Addr} {n c m d bytes : Nat} {α : Type} [Inhabited α] {E : Elem α} {xs ys : List α}
theorem append_grow {z : α} (r : Rd σ A n c E xs) (s : Rd σ B m d E ys) (ut : U P t (.slice e)) (eo : ElemOf P e E bytes) (ze : ZeroE P e E z) (hn0 : 0 < n) (hg : c < n + m) (hb : (n + m) * bytes ≤ 140737488355328) (hmx0 : n + m ≤ 9223372036854775807) :
    ∃ σ' A' c', (Builtin.append_ #[t, t] ty #[.slice A n c, .slice B m d]).run P σ.w = .ok (.slice A' (n + m) c') σ'.w ∧ NxP σ σ' .no ∧ RowNew σ none A' ∧ Row σ' A' (n + m) c' e E (xs ++ ys) := by
  have hmx : n + m ≤ maxLen := by simp only [maxLen]; omega
  obtain ⟨d0, i, hd0, hag, hi, hsz, hby⟩ := eo.ti.h
  obtain ⟨i', zv, hi', hz, hzc⟩ := ze.h
  rw [hi] at hi'; injection hi' with hi'; subst hi'
  have hlen : xs.length = n := r.len
  have hl2 : ys.length = m := s.len
  have hle := r.le
  have hpos := E.pos
  have hzs : zv.cells.size = i.size := by rw [hzc, E.size, hsz]
  have cells_of : ∀ {A : Option Addr} {n c : Nat} {xs : List α}, Rd σ A n c E xs → ∀ ad, A = some ad → ∀ j v, (E.flat xs)[j]? = some v → σ.w.cell? (ad.add j) = some v := by
    intro B m d ys s ad hB j v hv
    rcases s.rd with h0 | ⟨b, o, ha, hc⟩
    · have hy : ys = [] := List.eq_nil_of_length_eq_zero (by have := s.len; omega)
      subst hy
      simp [Elem.flat] at hv
    · rw [hB] at ha; injection ha with ha; subst ha
      rw [add_at]; exact hc j v hv
  have hlx : (xs ++ ys).length = n + m := by simp [hl2, hlen]
  obtain ⟨aa, hA⟩ : ∃ ad, A = some ad := by
    rcases r.rd with h0 | ⟨b, o, ha, _⟩
    · omega
    · exact ⟨_, ha⟩
  obtain ⟨ad, hB⟩ : ∃ ad, B = some ad := by
    rcases s.rd with h0 | ⟨b, o, ha, _⟩
    · omega
    · exact ⟨_, ha⟩
  have hcx := cells_of r aa hA
  have hcy := cells_of s ad hB
  have hge := grownCap_ge σ.w (n + m) c e
  have hcm : grownCap σ.w (n + m) c e ≤ maxLen := grownCap_le_maxLen σ.w (n + m) c e hmx
  obtain ⟨σ1, hw1, hn1⟩ := st_drew σ (σ.w.drawn + 1)
  obtain ⟨σ2, hw2, hn2, hm2, hm2', ho2, hs2⟩ := st_new σ1 (.cells ((E.flat xs).toArray ++ (E.flat ys).toArray ++ Builtin.zeroCells zv.cells (grownCap σ.w (n + m) c e - (n + m))) e) True
  have hz1 : σ1.w.heap.size = σ.w.heap.size := by rw [hw1]
  have hd : σ1.w = σ.w.drew := hw1
  have hn3 : NxP σ σ2 .no := ⟨hn2.os.trans hn1.os, hn2.tape.trans hn1.tape, hn2.output.trans hn1.output, Nat.le_trans hn1.size hn2.size, fun b hb hb' => (hn2.imm b (by omega) (fun h => hb' (hn1.mm b hb h))).trans (hn1.imm b hb hb'),
    fun b hb h => hn1.mm b hb (hn2.mm b (by omega) h), fun b hb _ => ⟨((hn2.own b (by omega) id).1).trans (hn1.own b hb id).1, fun h => (hn2.own b (by omega) id).2 ((hn1.own b hb id).2 h)⟩, trivial⟩
  have hfl : (E.flat xs).toArray ++ (E.flat ys).toArray ++ Builtin.zeroCells zv.cells (grownCap σ.w (n + m) c e - (n + m)) = (E.flat (xs ++ ys ++ List.replicate (grownCap σ.w (n + m) c e - (n + m)) z)).toArray := by
    rw [zeroCells_flat E z _ hzc]; simp [E.flat_append]
  have hrow : Row σ2 (some ⟨σ.w.heap.size, 0, none⟩) (n + m) (grownCap σ.w (n + m) c e) e E (xs ++ ys) :=
    Row.mk_ hlx hge hcm rfl (by rw [hz1] at ho2; rw [ho2, hfl]) (by simp [hlx, hl2, hlen]; omega) (by rw [List.take_append_of_le_length (by omega), List.take_of_length_le (by omega)]) (fun x hx => by
      rcases List.mem_append.1 hx with hx | hx
      · rcases List.mem_append.1 hx with hx | hx
        · exact E.nx _ _ _ _ hn3 (r.ok x hx)
        · exact E.nx _ _ _ _ hn3 (s.ok x hx)
      · rw [(List.mem_replicate.1 hx).2]; exact ze.ok _) (by rw [hz1] at hm2; exact hm2.2 trivial)
  have hr := run_append_grow (P := P) σ.w t ty e i zv ut.h hi hz aa n c (E.flat xs) (by rw [E.flat_length, hsz, hlen]) hcx ad m d (E.flat ys) (by rw [E.flat_length, hl2, hsz]) hcy (by omega) (by omega) (by rw [hby]; exact growslice_fits (by omega) hb)
  subst hA; subst hB
  exact ⟨σ2, _, _, by rw [hw2, hd]; exact hr, hn3, ⟨fun a' ha' => by injection ha' with ha'; subst ha'; exact .inr (Nat.le_refl _)⟩, hrow⟩
instance (priority := low) Step.append_full {z : α} {x y : Operand} [h : Ev f x (.slice A n c)] [g : Ev f y (.slice B m d)] [s0 : SL σ A n c E xs] [gr : Grow c (n + m)] [ps : PosN n] [ut : U P t (.slice e)] [eo : ElemOf P e E bytes] [s : Rd σ B m d E ys] [ze : ZeroE P e E z] :
    Step P (.call { callee := .builtin .append, args := #[x, y], argTypes := #[t, t] }) ty f σ
      (fun K _ => ((n + m) * bytes ≤ 140737488355328 ∧ n + m ≤ 9223372036854775807) ∧ ∀ (σ' : St) (A' : Option Addr) (c' : Nat), Nx σ σ' .no → RowNew σ none A' → Row σ' A' (n + m) c' e E (xs ++ ys) → K (.slice A' (n + m) c') σ') := ⟨fun K E' hK => by
  obtain ⟨⟨hb, hmx0⟩, hK⟩ := hK
  obtain ⟨σ', A', c', hrun, hn, hrn, hrow⟩ := append_grow (ty := ty) (inferInstance : Rd σ A n c E xs) s ut eo ze ps.pos gr.lt hb hmx0
  have hr : (execOp (evo f) ⟨none, .call { callee := .builtin .append, args := #[x, y], argTypes := #[t, t] }, ty, "", #[], none⟩).run P σ.w = .ok (.value (.slice A' (n + m) c')) σ'.w := by
    simp [execOp, resolve, h.eq, g.eq, invoke, builtin, hrun]
  unfold OpW; rw [hr]
  exact ⟨σ', rfl, hK σ' A' c' ⟨hn⟩ hrn hrow⟩⟩
end
theorem Wo.freeze {P : Program} {ops : Array Oper} {n0 : Nat} {Q : PostQ} {mu : List Nat} {r : Bool} {k : Kd} {i : Nat} {o : Oper} {p : PT} {D : List Deferred} {f : Fr} {σ : St} (A : Option Addr) {n c : Nat} {t : TypeId} {α : Type} {E : Elem α} {xs : List α} [h : Row σ A n c t E xs]
    (hk : ∀ σ' : St, Nx σ σ' (.row A t) → SL σ' A n c E xs → Wo P ops n0 Q mu r k i o p D f σ') : Wo P ops n0 Q mu r k i o p D f σ := by
  obtain ⟨σ', hw, hn, hs⟩ := h.freeze
  have := hk σ' ⟨hn⟩ hs
  unfold Wo at *
  intro ho hg
  have h2 := this ho hg
  unfold WX at *
  rw [hw] at h2
  exact h2
/-- what can be read, as long as no more than X turns -/
class RdX (σ : St) (X : Xs) (A : Option Addr) (n c : outParam Nat) {α : outParam Type} (E : outParam (Elem α)) (xs : outParam (List α)) : Prop where
  h : ∀ σ' : St, NxP σ σ' X → Rd σ' A n c E xs
instance RdX.ofSL {σ : St} {X : Xs} {A : Option Addr} {n c : Nat} {α : Type} {E : Elem α} {xs : List α} [h : SL σ A n c E xs] : RdX σ X A n c E xs := ⟨fun σ' nx => by
  haveI := h.nx nx
  infer_instance⟩
instance RdX.ofRow {σ : St} {X : Xs} {A : Option Addr} {n c : Nat} {t : TypeId} {α : Type} {E : Elem α} {xs : List α} [h : Row σ A n c t E xs] [k : MisR σ X A t] : RdX σ X A n c E xs := ⟨fun σ' nx => by
  haveI := h.lift nx (k.h h.typed nx.ty)
  infer_instance⟩
theorem two_set {α : Type} [Inhabited α] {zs : List α} {i j k : Nat} {a b : α} (hk : k < zs.length) : ((zs.set i a).set j b)[k]! = if j = k then b else if i = k then a else zs[k]! := by
  rw [getElem!_pos _ k (by simpa using hk), getElem!_pos zs k hk]
  simp only [List.getElem_set]
/-- ways meet behind a block -/
theorem WC.cutB {P : Program} {n id : Nat} {Q : PostQ} {D : List Deferred} {f : Fr} {σ : St} {next : List Deferred → Fr → St → Prop} (W : Nat) (X : Xs) (R : Fr → St → Prop) {c : Code} (h1 : WC P n (blockQ id (thenQ (fun D' f' σ' => D' = D ∧ Agree f' W f ∧ Nx σ σ' X ∧ R f' σ') Q)) c D f σ) (h2 : ∀ f' σ', Agree f' W f → Nx σ σ' X → R f' σ' → next D f' σ') : WC P n (blockQ id (thenQ next Q)) c D f σ :=
  WC.mono h1 (fun e D' f' σ' hq => by
    have key : ∀ e, thenQ (fun D' f' σ' => D' = D ∧ Agree f' W f ∧ Nx σ σ' X ∧ R f' σ') Q e D' f' σ' → thenQ next Q e D' f' σ' := by
      intro e hq
      cases e with
      | normal =>
        unfold thenQ at hq ⊢
        obtain ⟨rfl, h⟩ := hq; exact h2 _ _ h.1 h.2.1 h.2.2
      | _ =>
        unfold thenQ at hq ⊢
        exact hq
    cases e with
    | exit id' =>
      unfold blockQ at hq ⊢
      simp only at hq ⊢
      split at hq
      · rename_i he; rw [if_pos he]; exact key _ hq
      · rename_i he; rw [if_neg he]; exact key _ hq
    | _ =>
      unfold blockQ at hq ⊢
      exact key _ hq)
/-! the least of numbers -/
def minL : List Nat → Nat
  | [] => 0
  | a :: l => l.foldl min a
class NatsV (vs : List Value) (k : outParam IntKind) (ns : outParam (List Nat)) : Prop where
  eq : vs = ns.map fun (n : Nat) => .int k (n : Int)
  ne : ns ≠ []
instance NatsV.one {k : IntKind} {j : Int} {n : Nat} [q : ToNat j n] : NatsV [.int k j] k [n] := ⟨by simp [q.eq], by simp⟩
instance NatsV.cons {k : IntKind} {j : Int} {n : Nat} {v : Value} {vs : List Value} {ns : List Nat} [q : ToNat j n] [h : NatsV (v :: vs) k ns] : NatsV (.int k j :: v :: vs) k (n :: ns) := ⟨by simp [q.eq, h.eq], by simp⟩
theorem run_min2_nats {P : Program} {w : World} (k : IntKind) : ∀ (l : List Nat) (a : Nat), ((l.map fun (n : Nat) => Value.int k (n : Int)).foldlM Builtin.min2 (.int k (a : Int))).run P w = .ok (.int k ((l.foldl min a : Nat) : Int)) w
  | [], a => by simp
  | n :: l, a => by
    have h1 : (Builtin.min2 (.int k (a : Int)) (.int k (n : Int))).run P w = .ok (.int k ((min a n : Nat) : Int)) w := by
      simp only [Builtin.min2]
      by_cases h : n < a
      · have : ((n : Int) < (a : Int)) := by omega
        simp [this, Nat.min_eq_right (Nat.le_of_lt h)]
      · have : ¬ ((n : Int) < (a : Int)) := by omega
        simp [this, Nat.min_eq_left (Nat.le_of_not_lt h)]
    simp only [List.map_cons, List.foldlM_cons, Sem.run_bind, h1, Result.andThen_ok, List.foldl_cons]
    exact run_min2_nats k l (min a n)
instance StepV.min_nats {P : Program} {σ : St} {f : Fr} {ty : TypeId} {xs : List Operand} {ts : Array TypeId} {vs : List Value} {k : IntKind} {ns : List Nat} [e : EvL f xs vs] [h : NatsV vs k ns] : StepV P (.call { callee := .builtin .min, args := xs.toArray, argTypes := ts }) ty f σ (.int k ((minL ns : Nat) : Int)) := ⟨by
  have h1 := h.eq
  have key : (Builtin.min_ ts ty vs.toArray).run P σ.w = .ok (.int k ((minL ns : Nat) : Int)) σ.w := by
    unfold Builtin.min_
    have hne := h.ne
    match ns, h1, hne with
    | [], _, hne => exact absurd rfl hne
    | n :: l, h1, _ => subst h1; exact run_min2_nats k l n
  simp [execOp, resolve, e.eq, invoke, builtin, key]⟩
end Go.Proofs.Ytchdbmnikaacdaa

/- Made by gen_typ.py: where the fields of structs lie, and the zeros of structs.  -/
set_option linter.all false
set_option maxRecDepth 100000
namespace Go.Proofs.Ytchdbmnikaacdaa
open Go Go.RowKit
instance fo13_0 : FO Try.prog 13 0 0 9 := FO.mk_ tu13.h rfl rfl rfl
instance fo13_1 : FO Try.prog 13 1 1 12 := FO.mk_ tu13.h rfl rfl rfl
instance al13 : AllTI Try.prog 13 := AllTI.mk_ tu13.h (by simp only [List.forall_mem_cons]; exact ⟨⟨_, fun w => ti9.run_sizeOf w⟩, ⟨_, fun w => ti12.run_sizeOf w⟩, by simp⟩)
instance tz13 : TZ Try.prog 13 (cats [#[.string .empty], #[.int .u64 0]]) := TZ.mk_ (by kernel_rfl)
instance fo28_0 : FO Try.prog 28 0 0 22 := FO.mk_ tu28.h rfl rfl rfl
instance fo28_1 : FO Try.prog 28 1 1 25 := FO.mk_ tu28.h rfl rfl rfl
instance fo28_2 : FO Try.prog 28 2 2 26 := FO.mk_ tu28.h rfl rfl rfl
instance fo28_3 : FO Try.prog 28 3 3 24 := FO.mk_ tu28.h rfl rfl rfl
instance fo28_4 : FO Try.prog 28 4 35 27 := FO.mk_ tu28.h rfl rfl rfl
instance fo28_5 : FO Try.prog 28 5 36 27 := FO.mk_ tu28.h rfl rfl rfl
instance fo28_6 : FO Try.prog 28 6 37 2 := FO.mk_ tu28.h rfl rfl rfl
instance al28 : AllTI Try.prog 28 := AllTI.mk_ tu28.h (by simp only [List.forall_mem_cons]; exact ⟨⟨_, fun w => ti22.run_sizeOf w⟩, ⟨_, fun w => ti25.run_sizeOf w⟩, ⟨_, fun w => ti26.run_sizeOf w⟩, ⟨_, fun w => ti24.run_sizeOf w⟩, ⟨_, fun w => ti27.run_sizeOf w⟩, ⟨_, fun w => ti27.run_sizeOf w⟩, ⟨_, fun w => ti2.run_sizeOf w⟩, by simp⟩)
instance tz28 : TZ Try.prog 28 (cats [#[.int .u32 0], #[.slice none 0 0], #[.slice none 0 0], kc key0, #[.slice none 0 0], #[.slice none 0 0], #[.int .i64 0]]) := TZ.mk_ (by kernel_rfl)
instance fo29_0 : FO Try.prog 29 0 0 22 := FO.mk_ tu29.h rfl rfl rfl
instance fo29_1 : FO Try.prog 29 1 1 25 := FO.mk_ tu29.h rfl rfl rfl
instance fo29_2 : FO Try.prog 29 2 2 26 := FO.mk_ tu29.h rfl rfl rfl
instance fo29_3 : FO Try.prog 29 3 3 24 := FO.mk_ tu29.h rfl rfl rfl
instance fo29_4 : FO Try.prog 29 4 35 27 := FO.mk_ tu29.h rfl rfl rfl
instance fo29_5 : FO Try.prog 29 5 36 27 := FO.mk_ tu29.h rfl rfl rfl
instance fo29_6 : FO Try.prog 29 6 37 2 := FO.mk_ tu29.h rfl rfl rfl
instance al29 : AllTI Try.prog 29 := AllTI.mk_ tu29.h (by simp only [List.forall_mem_cons]; exact ⟨⟨_, fun w => ti22.run_sizeOf w⟩, ⟨_, fun w => ti25.run_sizeOf w⟩, ⟨_, fun w => ti26.run_sizeOf w⟩, ⟨_, fun w => ti24.run_sizeOf w⟩, ⟨_, fun w => ti27.run_sizeOf w⟩, ⟨_, fun w => ti27.run_sizeOf w⟩, ⟨_, fun w => ti2.run_sizeOf w⟩, by simp⟩)
instance tz29 : TZ Try.prog 29 (cats [#[.int .u32 0], #[.slice none 0 0], #[.slice none 0 0], kc key0, #[.slice none 0 0], #[.slice none 0 0], #[.int .i64 0]]) := TZ.mk_ (by kernel_rfl)
instance fo36_0 : FO Try.prog 36 0 0 2 := FO.mk_ tu36.h rfl rfl rfl
instance fo36_1 : FO Try.prog 36 1 1 24 := FO.mk_ tu36.h rfl rfl rfl
instance al36 : AllTI Try.prog 36 := AllTI.mk_ tu36.h (by simp only [List.forall_mem_cons]; exact ⟨⟨_, fun w => ti2.run_sizeOf w⟩, ⟨_, fun w => ti24.run_sizeOf w⟩, by simp⟩)
instance tz36 : TZ Try.prog 36 (cats [#[.int .i64 0], kc key0]) := TZ.mk_ (by kernel_rfl)
instance fo37_0 : FO Try.prog 37 0 0 2 := FO.mk_ tu37.h rfl rfl rfl
instance fo37_1 : FO Try.prog 37 1 1 24 := FO.mk_ tu37.h rfl rfl rfl
instance al37 : AllTI Try.prog 37 := AllTI.mk_ tu37.h (by simp only [List.forall_mem_cons]; exact ⟨⟨_, fun w => ti2.run_sizeOf w⟩, ⟨_, fun w => ti24.run_sizeOf w⟩, by simp⟩)
instance tz37 : TZ Try.prog 37 (cats [#[.int .i64 0], kc key0]) := TZ.mk_ (by kernel_rfl)
instance fo42_0 : FO Try.prog 42 0 0 24 := FO.mk_ tu42.h rfl rfl rfl
instance fo42_1 : FO Try.prog 42 1 32 22 := FO.mk_ tu42.h rfl rfl rfl
instance al42 : AllTI Try.prog 42 := AllTI.mk_ tu42.h (by simp only [List.forall_mem_cons]; exact ⟨⟨_, fun w => ti24.run_sizeOf w⟩, ⟨_, fun w => ti22.run_sizeOf w⟩, by simp⟩)
instance tz42 : TZ Try.prog 42 (cats [kc key0, #[.int .u32 0]]) := TZ.mk_ (by kernel_rfl)
instance fo43_0 : FO Try.prog 43 0 0 24 := FO.mk_ tu43.h rfl rfl rfl
instance fo43_1 : FO Try.prog 43 1 32 22 := FO.mk_ tu43.h rfl rfl rfl
instance al43 : AllTI Try.prog 43 := AllTI.mk_ tu43.h (by simp only [List.forall_mem_cons]; exact ⟨⟨_, fun w => ti24.run_sizeOf w⟩, ⟨_, fun w => ti22.run_sizeOf w⟩, by simp⟩)
instance tz43 : TZ Try.prog 43 (cats [kc key0, #[.int .u32 0]]) := TZ.mk_ (by kernel_rfl)
end Go.Proofs.Ytchdbmnikaacdaa

/- The engine, part 9: maps of the call's own.  -/
set_option linter.all false
namespace Go.Proofs.Ytchdbmnikaacdaa
open Go Go.RowKit
/-! ### The plain map: entries in the order of their first coming -/
section
variable {α β : Type} [DecidableEq α]
def lookM (M : List (α × β)) (k : α) (z : β) : β := ((M.find? fun p => decide (p.1 = k)).map (·.2)).getD z
def inM (M : List (α × β)) (k : α) : Bool := M.any fun p => decide (p.1 = k)
def setM : List (α × β) → α → β → List (α × β)
  | [], _, _ => []
  | p :: M, k, v => if p.1 = k then (k, v) :: M else p :: setM M k v
def putM (M : List (α × β)) (k : α) (v : β) : List (α × β) := if inM M k then setM M k v else M ++ [(k, v)]
theorem inM_cons {p : α × β} {M : List (α × β)} {k : α} : inM (p :: M) k = (decide (p.1 = k) || inM M k) := rfl
theorem lookM_setM (M : List (α × β)) (k j : α) (v z : β) (h : inM M k = true) : lookM (setM M k v) j z = if j = k then v else lookM M j z := by
  induction M with
  | nil => simp [inM] at h
  | cons p M ih =>
    unfold setM
    by_cases e : p.1 = k
    · rw [if_pos e]
      by_cases ej : j = k
      · subst ej; simp [lookM]
      · simp [lookM, ej, Ne.symm ej, e]
    · rw [if_neg e]
      have h' : inM M k = true := by simpa [inM_cons, e] using h
      by_cases ej : p.1 = j
      · have : ¬ j = k := fun h => e (ej.trans h)
        simp [lookM, ej, this]
      · have := ih h'
        simpa [lookM, ej] using this
theorem lookM_putM (M : List (α × β)) (k j : α) (v z : β) : lookM (putM M k v) j z = if j = k then v else lookM M j z := by
  unfold putM
  cases h : inM M k with
  | true => rw [if_pos rfl, lookM_setM M k j v z h]
  | false =>
    rw [if_neg (by simp)]
    unfold lookM
    rw [List.find?_append]
    by_cases ej : j = k
    · subst ej
      have : M.find? (fun p => decide (p.1 = j)) = none := by
        rw [List.find?_eq_none]
        intro p hp
        unfold inM at h
        rw [List.any_eq_false] at h
        exact h p hp
      rw [this]; simp
    · have hk : ¬ k = j := fun h => ej h.symm
      simp [hk, ej]
theorem inM_setM (M : List (α × β)) (k j : α) (v : β) : inM (setM M k v) j = inM M j := by
  induction M with
  | nil => rfl
  | cons p M ih =>
    unfold setM
    split
    · rename_i e; simp [inM_cons, e]
    · simp [inM_cons, ih]
theorem inM_putM (M : List (α × β)) (k j : α) (v : β) : inM (putM M k v) j = (decide (k = j) || inM M j) := by
  unfold putM
  cases h : inM M k with
  | true =>
    rw [if_pos rfl, inM_setM]
    by_cases e : k = j
    · subst e; simp [h]
    · simp [e]
  | false => rw [if_neg (by simp)]; simp [inM, Bool.or_comm]
end

/-! ### Keys -/
/-- how the keys of a map are compared -/
class KeyE (P : Program) (kt : TypeId) {α : Type} (E : Elem α) [DecidableEq α] : Prop where
  desc : ∃ d, P.underlying kt = some d ∧ ∀ a b, Instr.sameNow d (E.val a) (E.val b) = none
  eq : ∀ (a b : α) w, (Op.equal kt (E.val a) (E.val b)).run P w = .ok (decide (a = b)) w
  ck : ∀ (e : Bool) (a : α) w, (Instr.checkKey e 10000 kt (E.val a)).run P w = .ok () w
  bits : ∀ a : α, Instr.sameBits 10000 (E.val a) (E.val a) = true

section
variable {P : Program} {kt et : TypeId} {α β : Type} [DecidableEq α] {EK : Elem α} {EV : Elem β}
def entE (EK : Elem α) (EV : Elem β) (p : (α × β) × Nat) : MapEntry := ⟨EK.val p.1.1, EV.val p.1.2, p.2⟩
def fnd : List (α × β) → α → Nat → Option (Nat × β)
  | [], _, _ => none
  | p :: M, k, i => if p.1 = k then some (i, p.2) else fnd M k (i + 1)
theorem fnd_none : ∀ {M : List (α × β)} {k : α} {i : Nat}, fnd M k i = none → inM M k = false
  | [], _, _, _ => rfl
  | p :: M, k, i, h => by
    unfold fnd at h
    split at h
    · cases h
    · rename_i e; rw [inM_cons, fnd_none h]; simp [e]
theorem fnd_some : ∀ {M : List (α × β)} {k : α} {i j : Nat} {v : β}, fnd M k i = some (j, v) → ∃ (h : j - i < M.length), i ≤ j ∧ M[j - i] = (k, v) ∧ inM M k = true ∧ ∀ z, lookM M k z = v
  | [], _, _, _, _, h => by cases h
  | p :: M, k, i, j, v, h => by
    unfold fnd at h
    split at h
    · rename_i e
      injection h with h; injection h with h1 h2
      subst h1; subst h2
      refine ⟨by simp, Nat.le_refl _, ?_, by simp [inM_cons, e], fun z => by simp [lookM, e]⟩
      simp [← e]
    · rename_i e
      obtain ⟨h1, h2, h3, h4, h5⟩ := fnd_some h
      refine ⟨by simp; omega, by omega, ?_, by simp [inM_cons, h4], fun z => by have := h5 z; simpa [lookM, e] using this⟩
      have : j - i = (j - (i + 1)) + 1 := by omega
      simp only [this, List.getElem_cons_succ, h3]
theorem lookM_none {M : List (α × β)} {k : α} {z : β} (h : inM M k = false) : lookM M k z = z := by
  unfold lookM
  have : M.find? (fun p => decide (p.1 = k)) = none := by
    rw [List.find?_eq_none]
    intro p hp
    unfold inM at h
    rw [List.any_eq_false] at h
    exact h p hp
  rw [this]; rfl
theorem run_findAsking (ke : KeyE P kt EK) (k : α) (w : World) : ∀ (M : List (α × β)) (B : List Nat) (i : Nat), B.length = M.length →
    (Instr.findAsking kt (EK.val k) ((M.zip B).map (entE EK EV)) i).run P w = .ok ((fnd M k i).map fun p => (p.1, EV.val p.2)) w
  | [], _, i, _ => by simp [Instr.findAsking, fnd]
  | p :: M, [], i, h => by simp at h
  | p :: M, b :: B, i, h => by
    have ih := run_findAsking ke k w M B (i + 1) (by simpa using h)
    simp only [List.zip_cons_cons, List.map_cons, Instr.findAsking, Sem.run_bind, entE, ke.eq, Result.andThen_ok]
    by_cases e : k = p.1
    · subst e
      simp [fnd]
    · have e' : ¬ p.1 = k := fun h => e h.symm
      simp only [e, decide_false, Bool.false_eq_true, if_false, fnd, e']
      exact ih
theorem run_findKey (ke : KeyE P kt EK) (k : α) (w : World) (M : List (α × β)) (B : List Nat) (hl : B.length = M.length) :
    (Instr.findKey kt (EK.val k) ((M.zip B).map (entE EK EV))).run P w = .ok ((fnd M k 0).map fun p => (p.1, EV.val p.2)) w := by
  obtain ⟨d, hd, hs⟩ := ke.desc
  cases M with
  | nil => simp [Instr.findKey, Instr.findNow, run_underlying hd, fnd]
  | cons p M =>
    cases B with
    | nil => simp at hl
    | cons b B =>
      have hn : Instr.findNow d (EK.val k) (((p :: M).zip (b :: B)).map (entE EK EV)) 0 = none := by
        simp [Instr.findNow, entE, hs]
      unfold Instr.findKey
      simp only [Sem.run_bind, run_underlying hd, Result.andThen_ok, hn]
      exact run_findAsking ke k w (p :: M) (b :: B) 0 hl
end

/-- a map of the call's own -/
class MapAt (σ : St) (r : Nat) (kt et : outParam TypeId) {α β : outParam Type} (EK : outParam (Elem α)) (EV : outParam (Elem β)) (M : outParam (List (α × β))) : Prop where
  m : σ.M r
  h : ∃ (B : List Nat) (ck : Nat), σ.w.heap[r]? = some (.map ((M.zip B).map (entE EK EV)).toArray ck) ∧ B.length = M.length ∧ B.Nodup ∧ ∀ b ∈ B, b < ck
  ok : ∀ p ∈ M, EK.ok σ p.1 ∧ EV.ok σ p.2
class MisM (σ : St) (X : Xs) (r : Nat) : Prop where
  h : (∃ es ck, σ.w.heap[r]? = some (.map es ck)) → X.typed σ.w → ¬ X.hits r
section
variable {σ σ' : St} {r r' b : Nat} {t : TypeId} {A : Option Addr}
instance MisM.no : MisM σ .no r := ⟨fun _ _ h => h⟩
instance MisM.one : MisM σ (.one b t) r := ⟨fun ⟨es, ck, h⟩ ⟨cs, fz, h'⟩ e => by
  rw [show r = b from e] at h; rw [h] at h'; injection h' with h'; cases h'⟩
instance MisM.row : MisM σ (.row A t) r := ⟨fun ⟨es, ck, h⟩ ht ⟨a, ha, e⟩ => by
  obtain ⟨cs, fz, h'⟩ := ht a ha
  rw [e, h] at h'; injection h' with h'; cases h'⟩
instance (priority := low) MisM.map [k : NeB r r'] : MisM σ (.map r') r := ⟨fun _ _ e => k.ne e⟩
instance MisM.un {X Y : Xs} [k : MisM σ X r] [l : MisM σ Y r] : MisM σ (.un X Y) r := ⟨fun h ht e => e.elim (k.h h ht.1) (l.h h ht.2)⟩
end
section
variable {P : Program} {f : Fr} {σ σ' : St} {ty : TypeId} {r : Nat} {t kt et : TypeId} {α β : Type} [DecidableEq α] {EK : Elem α} {EV : Elem β} {M : List (α × β)} {bk bv : Nat}
omit [DecidableEq α] in
theorem MapAt.lt (h : MapAt σ r kt et EK EV M) : r < σ.w.heap.size := σ.wf r h.m
instance InH.map [h : MapAt σ r kt et EK EV M] : InH σ r := ⟨h.lt⟩
instance (priority := low) MapAt.lift {X : Xs} [n : Nx σ σ' X] [h : MapAt σ r kt et EK EV M] [k : MisM σ X r] : MapAt σ' r kt et EK EV M := by
  obtain ⟨B, ck, hh, hl, hn, hb⟩ := h.h
  have hx := k.h ⟨_, _, hh⟩ n.p.ty
  exact ⟨(n.p.own r h.lt hx).2 h.m, ⟨B, ck, (n.p.own r h.lt hx).1.trans hh, hl, hn, hb⟩, fun p hp => ⟨EK.nx _ _ _ _ n.p (h.ok p hp).1, EV.nx _ _ _ _ n.p (h.ok p hp).2⟩⟩
instance Tyd.map [h : MapAt σ r kt et EK EV M] : Tyd σ (.map r) := ⟨by obtain ⟨B, ck, hh, _⟩ := h.h; exact ⟨_, _, hh⟩⟩
instance Step.makeMap [u : U P t (.map kt et)] [ek : ElemOf P kt EK bk] [ev : ElemOf P et EV bv] :
    Step P (.makeMap t none) ty f σ (fun K _ => ∀ (σ' : St) (r : Nat), Nx σ σ' .no → NewAt σ r → MapAt σ' r kt et EK EV [] → K (.map (some r)) σ') := ⟨fun K E' hK => by
  obtain ⟨σ', hw, hn, hm, _, ho, hs⟩ := st_new σ (.map #[] 0) True
  have hr : (execOp (evo f) ⟨none, .makeMap t none, ty, "", #[], none⟩).run P σ.w = .ok (.value (.map (some σ.w.heap.size))) (σ.w.alloc (.map #[] 0)) := by
    simp [execOp, Instr.makeMap, newObj, Sem.run]
  unfold OpW; rw [hr]
  exact ⟨σ', hw, hK σ' _ ⟨hn⟩ ⟨Nat.le_refl _⟩ ⟨hm.2 trivial, ⟨[], 0, ho, rfl, List.nodup_nil, by simp⟩, by simp⟩⟩⟩
/-- the zero of a type, as a value -/
class ZeroVal (P : Program) (t : TypeId) {α : Type} (E : Elem α) (z : outParam α) : Prop where
  h : ∀ w, (zeroValue t).run P w = .ok (E.val z) w
theorem run_lookup {z : β} (u : U P t (.map kt et)) (h : MapAt σ r kt et EK EV M) (ke : KeyE P kt EK) (ze : ZeroVal P et EV z) (k : α) (c : Bool) :
    (Instr.lookup t (.map (some r)) (EK.val k) c).run P σ.w = .ok (if c then .tuple #[EV.val (lookM M k z), .bool (inM M k)] else EV.val (lookM M k z)) σ.w := by
  obtain ⟨B, ck, hh, hl, hn, hb⟩ := h.h
  have hg : (getObj r).run P σ.w = .ok (.map ((M.zip B).map (entE EK EV)).toArray ck) σ.w := by simp [getObj, Sem.run, hh]
  have hf := run_findKey (EV := EV) ke k σ.w M B hl
  unfold Instr.lookup
  simp only [Sem.run_bind, run_underlying u.h, Result.andThen_ok, hg, Sem.run_pure, ke.ck, hf]
  cases ho : fnd M k 0 with
  | none =>
    have h1 := fnd_none ho
    rw [lookM_none h1, h1]
    simp only [Option.map_none, Sem.run_bind, ze.h, Result.andThen_ok, Sem.run_pure]
    all_goals (cases c <;> rfl)
  | some q =>
    obtain ⟨j, v⟩ := q
    obtain ⟨_, _, _, h4, h5⟩ := fnd_some ho
    rw [h5 z, h4]
    simp only [Option.map_some, Sem.run_pure, Result.andThen_ok]
    all_goals (cases c <;> rfl)
instance StepV.lookup {x y : Operand} {kv : Value} {k : α} {z v : β} {val : β → Value} [h1 : Ev f x (.map (some r))] [h2 : Ev f y kv] [u : U P t (.map kt et)] [h : MapAt σ r kt et EK EV M] [ke : KeyE P kt EK] [en : EncV σ EK kv k] [ze : ZeroVal P et EV z] [fv : FlatV EV val] [q : Is (lookM M k z) v] :
    StepV P (.lookup t x y false) ty f σ (val v) := ⟨by
  have hq := q.eq; subst hq
  have hv := en.eq; subst hv
  have := run_lookup u h ke ze k false
  simp only [execOp, h1.eq, h2.eq, Sem.run_bind, this, ← fv.eq]
  rfl⟩
instance StepV.len_map {x : Operand} [u : U P t (.map kt et)] [h : Ev f x (.map (some r))] [m : MapAt σ r kt et EK EV M] : StepV P (.call { callee := .builtin .len, args := #[x], argTypes := #[t] }) ty f σ (.int .i64 (M.length : Int)) := ⟨by
  obtain ⟨B, ck, hh, hl, hn, hb⟩ := m.h
  have hg : (getObj r).run P σ.w = .ok (.map ((M.zip B).map (entE EK EV)).toArray ck) σ.w := by simp [getObj, Sem.run, hh]
  simp [execOp, resolve, h.eq, invoke, builtin, Builtin.len_, run_underlying u.h, hg, goInt, hl]⟩
/-- a block that is no row turns -/
theorem st_setObj {o o' : Obj} (hm : σ.M r) (hh : σ.w.heap[r]? = some o) (ho : ∃ es ck, o = .map es ck) (ho' : ∃ es ck, o' = .map es ck) :
    ∃ σ' : St, (setObj r o').run P σ.w = .ok () σ'.w ∧ NxP σ σ' (.map r) ∧ σ'.M r ∧ σ'.w.heap[r]? = some o' := by
  obtain ⟨es, ck, rfl⟩ := ho
  obtain ⟨es', ck', rfl⟩ := ho'
  have hlt := σ.wf r hm
  refine ⟨⟨{ σ.w with heap := σ.w.heap.setIfInBounds r (.map es' ck') }, σ.M, fun b hb => by simpa using σ.wf b hb⟩, by simp [setObj, Sem.run, hh], ⟨rfl, rfl, rfl, by simp, ?_, fun _ _ h => h, ?_, ⟨_, _, hh⟩⟩, hm, by simp [hlt]⟩
  · intro b hb hb'
    have : b ≠ r := fun e => hb' (e ▸ hm)
    simp [Array.getElem?_setIfInBounds_ne (Ne.symm this)]
  · intro b hb hx
    have : b ≠ r := hx
    exact ⟨by simp [Array.getElem?_setIfInBounds_ne (Ne.symm this)], id⟩
theorem set_idx (k : α) (v : β) : ∀ (M : List (α × β)) (i j : Nat) (u : β), fnd M k i = some (j, u) → setM M k v = M.set (j - i) (k, v)
  | [], i, j, u, h => by cases h
  | p :: M, i, j, u, h => by
    unfold fnd at h
    unfold setM
    split at h
    · rename_i e
      injection h with h; injection h with h1 h2
      subst h1
      simp [e]
    · rename_i e
      obtain ⟨_, h2, _⟩ := fnd_some h
      have : j - i = (j - (i + 1)) + 1 := by omega
      rw [if_neg e, this, List.set_cons_succ, set_idx k v M (i + 1) j u h]
instance Step.mapUpdate {x y y2 : Operand} {kv vv : Value} {k : α} {v : β} [h1 : Ev f x (.map (some r))] [h2 : Ev f y kv] [h3 : Ev f y2 vv] [u : U P t (.map kt et)] [h : MapAt σ r kt et EK EV M] [ke : KeyE P kt EK] [en : EncV σ EK kv k] [ev : EncV σ EV vv v] :
    Step P (.mapUpdate t x y y2) ty f σ (fun K _ => ∀ σ' : St, Nx σ σ' (.map r) → MapAt σ' r kt et EK EV (putM M k v) → K undef σ') := ⟨fun K E' hK => by
  have hv := en.eq; subst hv
  have hv := ev.eq; subst hv
  obtain ⟨B, ck, hh, hl, hn, hb⟩ := h.h
  have hg : (getObj r).run P σ.w = .ok (.map ((M.zip B).map (entE EK EV)).toArray ck) σ.w := by simp [getObj, Sem.run, hh]
  have hf := run_findKey (EV := EV) ke k σ.w M B hl
  cases hi : fnd M k 0 with
  | none =>
    have hin : inM M k = false := fnd_none hi
    rw [hi, Option.map_none] at hf
    obtain ⟨σ', hrun, hnx, hm', hh'⟩ := st_setObj (P := P) (o' := .map (((M.zip B).map (entE EK EV)).toArray.push ⟨EK.val k, EV.val v, ck⟩) (ck + 1)) h.m hh ⟨_, _, rfl⟩ ⟨_, _, rfl⟩
    have hr : (execOp (evo f) ⟨none, .mapUpdate t x y y2, ty, "", #[], none⟩).run P σ.w = .ok .skip σ'.w := by
      simp only [execOp, h1.eq, h2.eq, h3.eq, Instr.mapUpdate, Sem.run_bind, run_underlying u.h, Result.andThen_ok, hg, ke.ck, hf, hrun]
      rfl
    unfold OpW; rw [hr]
    refine ⟨σ', rfl, hK σ' ⟨hnx⟩ ⟨hm', ⟨B ++ [ck], ck + 1, ?_, ?_, ?_, ?_⟩, fun p hp => ?_⟩⟩
    · rw [hh']
      unfold putM
      rw [hin, if_neg (by simp), List.zip_append hl.symm]
      simp [entE]
    · unfold putM; rw [hin, if_neg (by simp)]; simp [hl]
    · rw [List.nodup_append]
      exact ⟨hn, by simp, fun a ha b hb' e => by simp at hb'; have := hb a ha; omega⟩
    · intro b hb'
      rcases List.mem_append.1 hb' with h | h
      · have := hb b h; omega
      · simp at h; omega
    · unfold putM at hp
      rw [hin, if_neg (by simp)] at hp
      rcases List.mem_append.1 hp with h' | h'
      · exact ⟨EK.nx _ _ _ _ hnx (h.ok p h').1, EV.nx _ _ _ _ hnx (h.ok p h').2⟩
      · simp at h'; subst h'; exact ⟨EK.nx _ _ _ _ hnx en.ok, EV.nx _ _ _ _ hnx ev.ok⟩
  | some q =>
    obtain ⟨j, u0⟩ := q
    obtain ⟨hjl, _, hMj0, hin, _⟩ := fnd_some hi
    simp only [Nat.sub_zero] at hjl hMj0
    rw [hi, Option.map_some] at hf
    have hjB : j < B.length := by omega
    have hMj : M[j]? = some (k, u0) := by rw [List.getElem?_eq_getElem hjl, hMj0]
    have hsi := set_idx k v M 0 j u0 hi
    simp only [Nat.sub_zero] at hsi
    have hzj : (M.zip B)[j]? = some ((k, u0), B[j]) := by rw [List.getElem?_zip_eq_some]; exact ⟨hMj, List.getElem?_eq_getElem hjB⟩
    have hes : (((M.zip B).map (entE EK EV)).toArray)[j]? = some ⟨EK.val k, EV.val u0, B[j]⟩ := by
      simp [hzj, entE]
    have hset : (((M.zip B).map (entE EK EV)).toArray).modify j (fun e => { e with key := EK.val k, val := EV.val v }) = (((setM M k v).zip B).map (entE EK EV)).toArray := by
      rw [hsi]
      apply Array.ext_getElem?
      intro i
      rw [Array.getElem?_modify]
      by_cases e : j = i
      · subst e
        rw [if_pos rfl, hes]
        have h1 : ((M.set j (k, v)).zip B)[j]? = some ((k, v), B[j]) := by
          rw [List.getElem?_zip_eq_some]; exact ⟨by simp [hjl], List.getElem?_eq_getElem hjB⟩
        simp [h1, entE]
      · rw [if_neg e]
        have h1 : ((M.set j (k, v)).zip B)[i]? = (M.zip B)[i]? := by
          simp only [List.zip, List.getElem?_zipWith, List.getElem?_set_ne e]
        simp [h1]
    obtain ⟨σ', hrun, hnx, hm', hh'⟩ := st_setObj (P := P) (o' := .map (((setM M k v).zip B).map (entE EK EV)).toArray ck) h.m hh ⟨_, _, rfl⟩ ⟨_, _, rfl⟩
    have hk : (Instr.keyThatStays (EK.val k) (EK.val k)).run P σ.w = .ok (EK.val k) σ.w := by
      unfold Instr.keyThatStays; rw [if_pos (ke.bits k)]; rfl
    have hr : (execOp (evo f) ⟨none, .mapUpdate t x y y2, ty, "", #[], none⟩).run P σ.w = .ok .skip σ'.w := by
      simp only [execOp, h1.eq, h2.eq, h3.eq, Instr.mapUpdate, Sem.run_bind, run_underlying u.h, Result.andThen_ok, hg, ke.ck, hf]
      rw [hes]
      simp only [Option.map_some, Option.getD_some, hk, Result.andThen_ok, hset, hrun]
      rfl
    unfold OpW; rw [hr]
    have hput : putM M k v = setM M k v := by unfold putM; rw [if_pos hin]
    rw [hput] at hK
    have hlen : (setM M k v).length = M.length := by rw [hsi]; simp
    refine ⟨σ', rfl, hK σ' ⟨hnx⟩ ⟨hm', ⟨B, ck, hh', by omega, hn, hb⟩, fun p hp => ?_⟩⟩
    rw [hsi] at hp
    rcases List.mem_or_eq_of_mem_set hp with h' | h'
    · exact ⟨EK.nx _ _ _ _ hnx (h.ok p h').1, EV.nx _ _ _ _ hnx (h.ok p h').2⟩
    · subst h'; exact ⟨EK.nx _ _ _ _ hnx en.ok, EV.nx _ _ _ _ hnx ev.ok⟩⟩
end
end Go.Proofs.Ytchdbmnikaacdaa

/- Keys as keys of maps; truth values as elements.  -/
set_option linter.all false
namespace Go.Proofs.Ytchdbmnikaacdaa
open Go Go.RowKit
@[reducible] def boolE : Elem Bool := { sz := 1, agg := false, val := fun b => .bool b, ok := fun _ _ => True, pos := by omega, size := fun _ => rfl, one := fun x v hv => (by simp [Value.cells] at hv; subst hv; rfl), shapeA := nofun, shape1 := fun _ _ => rfl }
instance se_bool : SmallE boolE := ⟨by decide⟩
instance eo_bool : ElemOf Try.prog 4 boolE 1 := ⟨inferInstance⟩
instance fv_bool : FlatV boolE (fun b => .bool b) := ⟨rfl⟩
instance ev_bool {σ : St} {b : Bool} : EncV σ boolE (.bool b) b := ⟨rfl, trivial⟩
instance ze_bool : ZeroE Try.prog 4 boolE false := ZeroE.of (TZ.mk_ (by kernel_rfl)) (fun _ => trivial)
theorem zv_of {P : Program} {t : TypeId} {v : Value} (h : (P.info? t).bind (·.zero) = some v) (w : World) : (zeroValue t).run P w = .ok v w := by
  cases hi : P.info? t with
  | none => rw [hi] at h; cases h
  | some i => rw [hi] at h; simp [zeroValue, typeInfo, hi, show i.zero = some v from h]
instance zv_bool : ZeroVal Try.prog 4 boolE false := ⟨zv_of (by kernel_rfl)⟩
theorem ck_u8 (e : Bool) (k : Nat) (x : UInt8) (w : World) : (Instr.checkKey e (k + 1) 5 (u8v x)).run Try.prog w = .ok () w := by
  simp [Instr.checkKey, run_underlying (inferInstance : U Try.prog 5 _).h, u8v]
theorem ck_key (e : Bool) (a : Key) (w : World) : (Instr.checkKey e 10000 24 (.agg (kc a))).run Try.prog w = .ok () w := by
  rw [show (10000 : Nat) = 9999 + 1 from rfl, Instr.checkKey]
  simp only [Sem.run_bind, run_underlying (inferInstance : U Try.prog 24 _).h, Result.andThen_ok]
  simp only [Std.Legacy.Range.forIn_eq_forIn_range', Std.Legacy.Range.size, Nat.sub_zero, Nat.add_one_sub_one, Nat.div_one]
  have key : ∀ is : List Nat, (∀ i ∈ is, i < 32) → (forIn is PUnit.unit (fun i _ => do
      let z ← sizeOf 5
      let y ← part 5 (kc a) (i * z)
      Instr.checkKey e 9999 5 y
      pure (ForInStep.yield PUnit.unit)) : Sem PUnit).run Try.prog w = .ok () w := by
    intro is
    induction is with
    | nil => intro _; simp
    | cons i is ih =>
      intro h
      have ti := (inferInstance : TI Try.prog 5 false 1 1)
      have hi := h i (by simp)
      have hp : (part 5 (kc a) (i * 1)).run Try.prog w = .ok (u8v a[i]) w := run_part1 ti (by simpa using kc_get a i hi) w
      simp only [List.forIn_cons, Sem.run_bind, ti.run_sizeOf, Result.andThen_ok, hp, ck_u8 e 9998 _ w, Sem.run_pure]
      exact ih (fun j hj => h j (by simp [hj]))
  rw [key _ (fun i hi => by rw [List.mem_range'] at hi; omega)]
  simp
theorem bits_key (a : Key) : Instr.sameBits 10000 (.agg (kc a)) (.agg (kc a)) = true := by
  have h : ∀ l : List Value, (∀ v ∈ l, ∃ n, v = .int .u8 n) → ((l.zip l).all fun (x, y) => Instr.sameBits 9999 x y) = true := by
    intro l
    induction l with
    | nil => intro _; rfl
    | cons v l ih =>
      intro hv
      obtain ⟨n, rfl⟩ := hv v (by simp)
      simp only [List.zip_cons_cons, List.all_cons, Bool.and_eq_true]
      exact ⟨by simp [Instr.sameBits], ih (fun u hu => hv u (by simp [hu]))⟩
  rw [show (10000 : Nat) = 9999 + 1 from rfl]
  unfold Instr.sameBits
  simp only [BEq.rfl, Bool.true_and]
  refine h _ (fun v hv => ?_)
  simp only [kc, Array.toList_map, List.mem_map] at hv
  obtain ⟨b, _, rfl⟩ := hv
  exact ⟨_, rfl⟩
instance ke_key : KeyE Try.prog 24 keyE :=
  ⟨⟨_, (inferInstance : U Try.prog 24 _).h, fun _ _ => rfl⟩, fun a b w => run_equalIn_key 9998 w a b, ck_key, bits_key⟩
end Go.Proofs.Ytchdbmnikaacdaa

/- Elements: numbers.  -/
set_option linter.all false
namespace Go.Proofs.Ytchdbmnikaacdaa
open Go Go.RowKit
@[reducible] def u8E : Elem UInt8 := { sz := 1, agg := false, val := fun x => .int .u8 (x.toNat : Int), ok := fun _ _ => True, pos := by omega, size := fun _ => rfl, one := fun x v hv => (by simp [Value.cells] at hv; subst hv; rfl), shapeA := nofun, shape1 := fun _ _ => rfl }
instance se_u8 : SmallE u8E := ⟨by decide⟩
instance eo_u8 : ElemOf Try.prog 5 u8E 1 := ⟨inferInstance⟩
instance fv_u8 : FlatV u8E (fun x => .int .u8 (x.toNat : Int)) := ⟨rfl⟩
instance pl_u8 : Plain u8E := ⟨fun _ _ => trivial⟩
instance (priority := high) vo_u8 {x : UInt8} : ValOf u8E (.int .u8 (x.toNat : Int)) x := ⟨rfl⟩
instance ze_u8 : ZeroE Try.prog 5 u8E 0 := ZeroE.of (TZ.mk_ (by kernel_rfl)) (fun _ => trivial)
@[reducible] def u32E : Elem UInt32 := { sz := 1, agg := false, val := fun x => .int .u32 (x.toNat : Int), ok := fun _ _ => True, pos := by omega, size := fun _ => rfl, one := fun x v hv => (by simp [Value.cells] at hv; subst hv; rfl), shapeA := nofun, shape1 := fun _ _ => rfl }
instance se_u32 : SmallE u32E := ⟨by decide⟩
instance eo_u32 : ElemOf Try.prog 22 u32E 4 := ⟨inferInstance⟩
instance fv_u32 : FlatV u32E (fun x => .int .u32 (x.toNat : Int)) := ⟨rfl⟩
instance pl_u32 : Plain u32E := ⟨fun _ _ => trivial⟩
instance (priority := high) vo_u32 {x : UInt32} : ValOf u32E (.int .u32 (x.toNat : Int)) x := ⟨rfl⟩
instance ze_u32 : ZeroE Try.prog 22 u32E 0 := ZeroE.of (TZ.mk_ (by kernel_rfl)) (fun _ => trivial)
@[reducible] def i64E : Elem Int64 := { sz := 1, agg := false, val := fun x => .int .i64 x.toInt, ok := fun _ _ => True, pos := by omega, size := fun _ => rfl, one := fun x v hv => (by simp [Value.cells] at hv; subst hv; rfl), shapeA := nofun, shape1 := fun _ _ => rfl }
instance se_i64 : SmallE i64E := ⟨by decide⟩
instance eo_i64 : ElemOf Try.prog 2 i64E 8 := ⟨inferInstance⟩
instance fv_i64 : FlatV i64E (fun x => .int .i64 x.toInt) := ⟨rfl⟩
instance pl_i64 : Plain i64E := ⟨fun _ _ => trivial⟩
instance (priority := high) vo_i64 {x : Int64} : ValOf i64E (.int .i64 x.toInt) x := ⟨rfl⟩
instance ze_i64 : ZeroE Try.prog 2 i64E 0 := ZeroE.of (TZ.mk_ (by kernel_rfl)) (fun _ => trivial)
end Go.Proofs.Ytchdbmnikaacdaa

/- Strings, and bytes that become strings.  -/
set_option linter.all false
namespace Go.Proofs.Ytchdbmnikaacdaa
open Go Go.RowKit
abbrev Bs := List UInt8
abbrev sv (l : Bs) : Value := .string ⟨l.toArray⟩
class StrV (v : Value) (l : outParam Bs) : Prop where
  eq : v = .string ⟨l.toArray⟩
instance StrV.mk_ {l : Bs} : StrV (.string ⟨l.toArray⟩) l := ⟨rfl⟩
/-- how long a text is at most -/
class LenLe (l : Bs) (n : outParam Nat) : Prop where
  le : l.length ≤ n
instance (priority := low) LenLe.app {a b : Bs} {n m : Nat} [h : LenLe a n] [g : LenLe b m] : LenLe (a ++ b) (n + m) := ⟨by have := h.le; have := g.le; simp; omega⟩
instance LenLe.nil : LenLe [] 0 := ⟨Nat.le_refl _⟩
instance (priority := low) LenLe.cons {x : UInt8} {l : Bs} {n : Nat} [h : LenLe l n] : LenLe (x :: l) (n + 1) := ⟨by have := h.le; simp; omega⟩
class FitStr (a b : Bs) : Prop where
  le : a.length + b.length ≤ 140737488355328
instance (priority := low) FitStr.of {a b : Bs} {n m : Nat} [h : LenLe a n] [g : LenLe b m] [k : EqB (Nat.ble (n + m) 140737488355328) true] : FitStr a b := ⟨by have := h.le; have := g.le; have := Nat.le_of_ble_eq_true k.eq; omega⟩
section
variable {P : Program} {σ : St} {f : Fr} {ty t : TypeId}
instance StepV.str_add {x y : Operand} {u v : Value} {a b : Bs} [h : Ev f x u] [g : Ev f y v] [s1 : StrV u a] [s2 : StrV v b] [q : FitStr a b] {t2 : TypeId} : StepV P (.binOp .add t x y t2) ty f σ (sv (a ++ b)) := ⟨by
  have e1 := s1.eq; have e2 := s2.eq
  subst e1; subst e2
  have := q.le
  have hr := run_string_add_sum (P := P) σ.w ⟨a.toArray⟩ ⟨b.toArray⟩ (by simp [ByteArray.size]; omega)
  rw [ByteArray.mk_append_mk] at hr
  have hg : (eqGuard .add t x y (sv a) (sv b)).run P σ.w = .ok () σ.w := by simp [eqGuard]
  simp only [sv] at hg
  simp [execOp, h.eq, g.eq, binOp_string_add, hr, hg]⟩
instance StepV.str_len {x : Operand} {u : Value} {a : Bs} [uu : U P t .string] [h : Ev f x u] [s1 : StrV u a] : StepV P (.call { callee := .builtin .len, args := #[x], argTypes := #[t] }) ty f σ (.int .i64 (a.length : Int)) := ⟨by
  have e1 := s1.eq; subst e1
  have hr := run_len_string (P := P) (w := σ.w) t ty ⟨a.toArray⟩ uu.h
  simp [execOp, resolve, h.eq, invoke, builtin, hr, goInt]
  rfl⟩
variable {A : Option Addr} {n c : Nat} {bs : Bs}
theorem Rd.bytes (r : Rd σ A n c u8E bs) (hn : n ≠ 0) : ∃ b o, A = some ⟨b, o, none⟩ ∧ ∀ j x, bs[j]? = some x → σ.w.cell? ⟨b, o + j, none⟩ = some (.int .u8 (x.toNat : Int)) := by
  rcases r.rd with h0 | ⟨b, o, ha, hc⟩
  · exact absurd h0 hn
  · refine ⟨b, o, ha, fun j x hx => hc j _ ?_⟩
    have hj : j < bs.length := (List.getElem?_eq_some_iff.1 hx).1
    have := u8E.flat_get bs j 0 hj (by decide)
    simp only [Nat.mul_one, Nat.add_zero] at this
    rw [this]
    have e : bs[j] = x := (List.getElem?_eq_some_iff.1 hx).2
    rw [e]; rfl
instance StepV.conv_bytes {x : Operand} {src dst e : TypeId} [h : Ev f x (.slice A n c)] [r : Rd σ A n c u8E bs] [us : U P src (.slice e)] [ue : U P e (.int .u8)] [ud : U P dst .string] : StepV P (.convert src dst x) ty f σ (sv bs) := ⟨by
  have hl := r.len
  have hr : (convert src dst (.slice A n c)).run P σ.w = .ok (sv bs) σ.w := by
    by_cases hn : n = 0
    · subst hn
      have hx : bs = [] := List.eq_nil_of_length_eq_zero hl
      subst hx
      cases A with
      | none => rw [run_convert_bytes_nil _ _ _ us.h ue.h _ _ _ ud.h]; rfl
      | some a =>
        rw [run_convert_bytes_string _ _ _ _ _ _ _ us.h ue.h ud.h]
        have := run_bytesToString (P := P) σ.w a 0 c [] (by simp [loadCells, loadCellsFrom])
        exact this
    · obtain ⟨b, o, ha, hc⟩ := r.bytes hn
      subst ha
      have := run_convert_bytes_arg (P := P) σ.w src e us.h ue.h b o n c (bs.map fun x => (x.toNat : Int)) (by simpa using hl) (fun i hi => by
        rw [hc i bs[i]! (by rw [getElem!_pos bs i (by omega)]; exact List.getElem?_eq_getElem _)]
        simp [List.getD, List.getElem?_eq_getElem (show i < bs.length by omega), getElem!_pos bs i (by omega)]) dst ud.h
      rw [this]
      congr 2
      simp [strOfNums, Function.comp_def]
  simp [execOp, h.eq, hr]⟩
instance Rd.own_key {b : Nat} {t0 : TypeId} {k : Key} [h : Own σ b t0 (kc k)] : Rd σ (some ⟨b, 0, none⟩) 32 32 u8E k.toList := ⟨by simp, Nat.le_refl _, by simp [maxLen], fun _ _ => trivial, .inr ⟨b, 0, rfl, fun j v hv => by
  have hj : j < k.toList.length := by
    have := (List.getElem?_eq_some_iff.1 hv).1
    rw [u8E.flat_length] at this; simpa using this
  have e1 := u8E.flat_get k.toList j 0 hj (by decide)
  simp only [Nat.mul_one, Nat.add_zero] at e1
  rw [e1] at hv
  rw [cell_own h.h, Nat.zero_add, kc_get k j (by simpa using hj)]
  rw [← hv]
  simp [Value.cells, u8v]⟩⟩
theorem strCells_flat (l : Bs) : Lib.strCells ⟨l.toArray⟩ = u8E.flat l := by
  unfold Lib.strCells Elem.flat
  simp only
  induction l with
  | nil => rfl
  | cons x l ih => simp [Value.cells] at ih ⊢; exact ih
theorem run_append_str_row {e t ts : TypeId} {xs l : Bs} (r : Row σ A n c e u8E xs) (ut : U P t (.slice e)) (uts : U P ts .string) (eo : ElemOf P e u8E 1) (ze : ZeroE P e u8E 0) (hb : n + l.length ≤ 140737488355328) :
    ∃ σ' A' c', (Builtin.append_ #[t, ts] ty #[.slice A n c, sv l]).run P σ.w = .ok (.slice A' (n + l.length) c') σ'.w ∧ NxP σ σ' (.row A e) ∧ RowNew σ A A' ∧ Row σ' A' (n + l.length) c' e u8E (xs ++ l) := by
  generalize hm : l.length = m at hb
  have hsz8 : (⟨l.toArray⟩ : ByteArray).size = m := by rw [← hm]; simp [ByteArray.size]
  have hsc := strCells_flat l
  have hmx : n + m ≤ maxLen := by simp only [maxLen]; omega
  obtain ⟨d0, i, hd0, hag, hi, hsz, hby⟩ := eo.ti.h
  obtain ⟨i', zv, hi', hz, hzc⟩ := ze.h
  rw [hi] at hi'; injection hi' with hi'; subst hi'
  have hzv : zv.cells = #[.int .u8 0] := hzc
  have hlen : xs.length = n := r.len
  have hlx : (xs ++ l).length = n + m := by simp [hm, hlen]
  have okx : ∀ {σ' : St} (k : Nat), ∀ x ∈ xs ++ l ++ List.replicate k (0 : UInt8), u8E.ok σ' x := fun _ _ _ => trivial
  have grown : ∀ old, old < n + m → ∃ σ', σ'.w = σ.w.drew.alloc (.cells ((u8E.flat xs).toArray ++ (u8E.flat l).toArray ++ Builtin.zeroCells zv.cells (grownCap σ.w (n + m) old e - (n + m))) e) ∧ NxP σ σ' (.row A e) ∧
      RowNew σ A (some ⟨σ.w.heap.size, 0, none⟩) ∧ Row σ' (some ⟨σ.w.heap.size, 0, none⟩) (n + m) (grownCap σ.w (n + m) old e) e u8E (xs ++ l) := by
    intro old ho
    have hge := grownCap_ge σ.w (n + m) old e
    have hcm : grownCap σ.w (n + m) old e ≤ maxLen := grownCap_le_maxLen σ.w (n + m) old e hmx
    obtain ⟨σ1, hw1, hn1⟩ := st_drew σ (σ.w.drawn + 1)
    obtain ⟨σ2, hw2, hn2, hm2, hm2', ho2, hs2⟩ := st_new σ1 (.cells ((u8E.flat xs).toArray ++ (u8E.flat l).toArray ++ Builtin.zeroCells zv.cells (grownCap σ.w (n + m) old e - (n + m))) e) True
    have hz1 : σ1.w.heap.size = σ.w.heap.size := by rw [hw1]
    have hd : σ1.w = σ.w.drew := hw1
    have hn3 : NxP σ σ2 (.row A e) := ⟨hn2.os.trans hn1.os, hn2.tape.trans hn1.tape, hn2.output.trans hn1.output, Nat.le_trans hn1.size hn2.size, fun b hb hb' => (hn2.imm b (by omega) (fun h => hb' (hn1.mm b hb h))).trans (hn1.imm b hb hb'),
      fun b hb h => hn1.mm b hb (hn2.mm b (by omega) h), fun b hb _ => ⟨((hn2.own b (by omega) id).1).trans (hn1.own b hb id).1, fun h => (hn2.own b (by omega) id).2 ((hn1.own b hb id).2 h)⟩, r.typed⟩
    have hfl : (u8E.flat xs).toArray ++ (u8E.flat l).toArray ++ Builtin.zeroCells zv.cells (grownCap σ.w (n + m) old e - (n + m)) = (u8E.flat (xs ++ l ++ List.replicate (grownCap σ.w (n + m) old e - (n + m)) 0)).toArray := by
      rw [zeroCells_flat u8E 0 _ hzc]; simp [Elem.flat_append]
    refine ⟨σ2, by rw [hw2, hd], hn3, ⟨fun a' ha' => ?_⟩, Row.mk_ hlx hge hcm rfl (by rw [hz1] at ho2; rw [ho2, hfl]) (by simp [hlx, hm, hlen]; omega) (by rw [List.take_append_of_le_length (by omega), List.take_of_length_le (by omega)]) (okx _) (by rw [hz1] at hm2; exact hm2.2 trivial)⟩
    injection ha' with ha'; subst ha'; exact .inr (Nat.le_refl _)
  rcases r.full with ⟨ea, hc0⟩ | ⟨b, zs, ea, hh, hzl, hzt, hzok⟩
  · have hle := r.le
    have hn0 : n = 0 := by omega
    subst ea; subst hc0; subst hn0
    have hx0 : xs = [] := List.eq_nil_of_length_eq_zero hlen
    subst hx0
    by_cases hm0 : m = 0
    · subst hm0
      have hy : l = [] := List.eq_nil_of_length_eq_zero hm
      subst hy
      refine ⟨σ, none, 0, ?_, ⟨rfl, rfl, rfl, Nat.le_refl _, fun _ _ _ => rfl, fun _ _ h => h, fun _ _ _ => ⟨rfl, id⟩, nofun⟩, ⟨nofun⟩, ⟨rfl, by simp, Nat.le_refl _, r.max, .inl ⟨rfl, rfl⟩, nofun⟩⟩
      have hf := Lib.run_firstCells_string (P := P) σ.w i.size ⟨#[]⟩
      have e0 : (⟨#[]⟩ : ByteArray).size = 0 := rfl
      rw [e0] at hf
      simp [Builtin.append_, run_underlying ut.h, run_underlying uts.h, sizeOf, typeInfo, hi, Builtin.lenOf, e0, hf]
    · have hr := run_append_nil_string (P := P) σ.w t ts ty e i zv ut.h uts.h hi hz ⟨l.toArray⟩ (by omega) (by omega) (by rw [hby]; omega)
      obtain ⟨σ', hw, hn, hrn, hrow⟩ := grown 0 (by omega)
      have e1 : (l.toArray.map fun b => Value.int .u8 b.toNat) = (u8E.flat l).toArray := by
        rw [← hsc]
        apply Array.ext'
        simp [Lib.strCells]
      simp only [hsz8, e1] at hr
      simp only [Nat.zero_add, List.nil_append, Elem.flat_nil, Array.empty_append] at hw hrow hr ⊢
      refine ⟨σ', _, _, ?_, hn, hrn, hrow⟩
      rw [hw]
      exact hr
  · subst ea
    have hle := r.le
    have hfx : u8E.flat xs = (u8E.flat zs).take (n * 1) := by rw [← hzt]; exact (u8E.flat_take zs n).symm
    by_cases hroom : n + m ≤ c
    · have hsplice := flat_splice u8E zs l n (by omega)
      obtain ⟨σ', hw, hn, hrow⟩ := r.set_ (n' := n + m) (zs' := zs.take n ++ l ++ zs.drop (n + l.length)) (ys := xs ++ l) rfl hh (by simp; omega)
        (by rw [List.take_append_of_le_length (by simp [hm]; omega), List.take_of_length_le (by simp [hm]; omega), ← hzt]) hroom (fun _ _ => trivial)
      refine ⟨σ', _, _, ?_, hn, ⟨fun a' ha' => .inl ⟨a', ha', rfl⟩⟩, hrow⟩
      rw [hw, ← hsplice]
      have hr := Lib.run_append_room_string (P := P) σ.w t ts ty e i ut.h uts.h hi hsz b n c (u8E.flat zs).toArray hh ⟨l.toArray⟩ (by rw [hsz8]; exact hroom) (by rw [hsz8, u8E.flat_size, hzl, show u8E.sz = 1 from rfl]; omega)
      rw [hsz8, hsc] at hr
      have e2 : (u8E.flat l).length = m := by rw [u8E.flat_length, hm, show u8E.sz = 1 from rfl]; omega
      rw [e2]
      simpa using hr
    · have holds : ∀ j v, (u8E.flat xs)[j]? = some v → σ.w.cell? ((⟨b, 0, none⟩ : Addr).add j) = some v := by
        intro j v hv
        rw [add_at, Nat.zero_add, cell_own hh]
        rw [hfx, List.getElem?_take] at hv
        split at hv
        · simpa using hv
        · cases hv
      have hr := Lib.run_append_grow_string (P := P) σ.w t ts ty e i zv ut.h uts.h hi hz ⟨b, 0, none⟩ n c (u8E.flat xs) (by rw [u8E.flat_length, hsz, hlen]) holds ⟨l.toArray⟩ (by omega) (by omega) (by rw [hby]; exact growslice_fits (by omega) (by omega))
      rw [hsz8, hsc] at hr
      obtain ⟨σ', hw, hn, hrn, hrow⟩ := grown c (by omega)
      exact ⟨σ', _, _, by rw [hw]; exact hr, hn, hrn, hrow⟩
instance Step.append_str {e t ts : TypeId} {xs l : Bs} {x y : Operand} {v : Value} [h : Ev f x (.slice A n c)] [g : Ev f y v] [s1 : StrV v l] [rq : RowQ σ A n c e u8E xs] [ut : U P t (.slice e)] [uts : U P ts .string] [eo : ElemOf P e u8E 1] [ze : ZeroE P e u8E 0] :
    Step P (.call { callee := .builtin .append, args := #[x, y], argTypes := #[t, ts] }) ty f σ
      (fun K _ => (n + l.length ≤ 140737488355328) ∧ ∀ (σ' : St) (A' : Option Addr) (c' : Nat), Nx σ σ' (.row A e) → RowNew σ A A' → Row σ' A' (n + l.length) c' e u8E (xs ++ l) → K (.slice A' (n + l.length) c') σ') := ⟨fun K E' hK => by
  have e1 := s1.eq; subst e1
  obtain ⟨hb, hK⟩ := hK
  obtain ⟨σ', A', c', hrun, hn, hrn, hrow⟩ := run_append_str_row (ty := ty) rq.row ut uts eo ze hb
  have hr : (execOp (evo f) ⟨none, .call { callee := .builtin .append, args := #[x, y], argTypes := #[t, ts] }, ty, "", #[], none⟩).run P σ.w = .ok (.value (.slice A' (n + l.length) c')) σ'.w := by
    simp only [sv] at hrun
    simp [execOp, resolve, h.eq, g.eq, invoke, builtin, hrun]
  unfold OpW; rw [hr]
  exact ⟨σ', rfl, hK σ' A' c' ⟨hn⟩ hrn hrow⟩⟩
/-! pointers: nil, unsafe, what lies behind a slice -/
theorem run_eq_nil (w : World) {tp e : TypeId} (u : U P tp (.pointer e)) (a : Option Addr) : (binOp .eql tp (.pointer a) (.pointer none)).run P w = .ok (.bool a.isNone) w := by
  have h : ∀ d : Nat, (Op.equalIn (d + 1) tp (.pointer a) (.pointer none)).run P w = .ok a.isNone w := fun d => by
    cases a <;> simp [Op.equalIn, run_underlying u.h]
  simp only [binOp]
  simp [Op.equal, Op.maxDepth, h 9999]
instance StepV.ptr_eq_nil {x : Operand} {t t2 e : TypeId} {a : Option Addr} [h : Ev f x (.pointer a)] [u : U P t (.pointer e)] : StepV P (.binOp .eql t x (.const (.pointer none)) t2) ty f σ (.bool a.isNone) := ⟨by
  have hr := run_eq_nil σ.w u a
  have hg : (eqGuard .eql t x (.const (.pointer none)) (.pointer a) (.pointer none)).run P σ.w = .ok () σ.w := by simp [eqGuard, program, Sem.run]
  have e2 : evo f (.const (.pointer none)) = .pointer none := rfl
  simp [execOp, h.eq, e2, hr, hg]⟩
instance StepV.ptr_neq_same {x y : Operand} {t t2 e : TypeId} {a : Addr} {agg : Bool} {sz bytes : Nat} [h : Ev f x (.pointer (some a))] [g : Ev f y (.pointer (some a))] [u : U P t (.pointer e)] [ti : TI P e agg sz bytes] : StepV P (.binOp .neq t x y t2) ty f σ (.bool false) := ⟨by
  obtain ⟨d, i, _, _, hi, _, _⟩ := ti.h
  have hr := Lib.run_neq_ptr_same (P := P) σ.w (j := i) a u.h hi
  have hg : (eqGuard .neq t x y (.pointer (some a)) (.pointer (some a))).run P σ.w = .ok () σ.w := by simp [eqGuard, program, Sem.run]
  simp [execOp, h.eq, g.eq, hr, hg]⟩
/-- where a pointer stands: a variable of a call's own -/
instance StepV.to_unsafe {x : Operand} {src dst t0 tt : TypeId} {b : Nat} {cs : Array Value} {agg : Bool} {sz bytes m : Nat} [h : Ev f x (.pointer (some ⟨b, 0, none⟩))] [us : U P src (.pointer tt)] [ud : U P dst .unsafePointer] [ti : TI P tt agg sz bytes] [ps : PosSz sz] [o : Own σ b t0 cs] [cz : CSz cs m] [pm : PosSz m] :
    StepV P (.convert src dst x) ty f σ (.pointer (some ⟨b, 0, none⟩)) := ⟨by
  obtain ⟨d, i, _, _, hi, hs, _⟩ := ti.h
  have hr := Lib.run_to_unsafe (P := P) σ.w (src := src) (dst := dst) (t := tt) (j := i) (e := t0) (cells := cs.size) ⟨b, 0, none⟩ us.h ud.h hi (by have := ps.h; omega) (by simp [World.shape?, o.h]) (by have := pm.h; have := cz.size; simp only; omega)
  simp [execOp, h.eq, hr]⟩
class Lies (P : Program) (e u : TypeId) (m : outParam Nat) : Prop where
  h : liesAt P P.depth e (m / P.cellsOf e) 0 u 1 = true
instance StepV.from_unsafe {x : Operand} {src dst t0 tt : TypeId} {b : Nat} {cs : Array Value} {agg : Bool} {sz bytes m : Nat} [h : Ev f x (.pointer (some ⟨b, 0, none⟩))] [us : U P src .unsafePointer] [ud : U P dst (.pointer tt)] [ti : TI P tt agg sz bytes] [o : Own σ b t0 cs] [cz : CSz cs m] {m2 : Nat} [ls : Lies P t0 tt m2] [em : EqB (Nat.beq m m2) true] :
    StepV P (.convert src dst x) ty f σ (.pointer (some ⟨b, 0, none⟩)) := ⟨by
  obtain ⟨d, i, _, _, hi, hs, _⟩ := ti.h
  have hr := Lib.run_from_unsafe (P := P) σ.w (src := src) (dst := dst) (u := tt) (j := i) (e := t0) (cells := cs.size) ⟨b, 0, none⟩ us.h ud.h hi (by simp [World.shape?, o.h]) (by rw [cz.size, Nat.eq_of_beq_eq_true em.eq]; exact ls.h)
  simp [execOp, h.eq, hr]⟩
/-- what lies behind a slice -/
instance StepV.slice_data {x : Operand} {t e : TypeId} {xs : Bs} [h : Ev f x (.slice A n c)] [r : Row σ A n c e u8E xs] [p : PosN n] : StepV P (.call { callee := .builtin .unsafeSliceData, args := #[x], argTypes := #[t] }) ty f σ (.pointer A) := ⟨by
  have hp := p.pos
  have hle := r.le
  rcases r.full with ⟨_, hc⟩ | ⟨b, zs, ea, _⟩
  · omega
  · subst ea
    have hr := Lib.run_unsafeSliceData_row (P := P) σ.w #[t] ty ⟨b, 0, none⟩ n c (by omega)
    simp [execOp, resolve, h.eq, invoke, builtin, hr]⟩
/-- the bytes of a row become a text, and are written no more -/
instance Step.unsafe_string {x y : Operand} {t t2 e : TypeId} {j : Int} {xs : Bs} [h : Ev f x (.pointer A)] [g : Ev f y (.int .i64 j)] [q : ToNat j n] [r : Row σ A n c e u8E xs] [p : PosN n] [u : U P t (.pointer e)] [eo : ElemOf P e u8E 1] :
    Step P (.call { callee := .builtin .unsafeString, args := #[x, y], argTypes := #[t, t2] }) ty f σ (fun K _ => ∀ σ', Nx σ σ' (.row A e) → K (sv xs) σ') := ⟨fun K E hK => by
  have hp := p.pos
  have hle := r.le
  have hlen := r.len
  have hmx := r.max
  have hq := q.eq
  rcases r.full with ⟨_, hc⟩ | ⟨b, zs, ea, hh, hzl, hzt, hzok⟩
  · omega
  subst ea
  subst hq
  obtain ⟨d0, i, hd0, hag, hi, hsz, hby⟩ := eo.ti.h
  have hcell : P.cellsOf e = 1 := by simp [Program.cellsOf, hi, hsz]
  have hcs : (u8E.flat zs).toArray.size = c := by rw [u8E.flat_size, hzl, show u8E.sz = 1 from rfl]; omega
  have hfx : u8E.flat xs = (u8E.flat zs).take (n * 1) := by rw [← hzt]; exact (u8E.flat_take zs n).symm
  have hr := Lib.run_unsafeString_row (P := P) σ.w t t2 ty e u.h hcell b c (by simp [World.shape?, hh, hcs]) xs (fun e => by subst e; simp at hlen; omega) (by omega) (by simp only [maxLen] at hmx; omega) (fun j x hx => by
    rw [add_at, Nat.zero_add, cell_own hh]
    have hj : j < xs.length := (List.getElem?_eq_some_iff.1 hx).1
    have e1 := u8E.flat_get xs j 0 hj (by decide)
    simp only [Nat.mul_one, Nat.add_zero] at e1
    have e3 : xs[j] = x := (List.getElem?_eq_some_iff.1 hx).2
    rw [e3, hfx, List.getElem?_take, if_pos (by omega)] at e1
    simpa [Value.cells] using e1)
  rw [hlen] at hr
  have hrun : (execOp (evo f) ⟨none, .call { callee := .builtin .unsafeString, args := #[x, y], argTypes := #[t, t2] }, ty, "", #[], none⟩).run P σ.w = .ok (.value (sv xs)) (σ.w.freeze ⟨b, 0, none⟩ n) := by
    simp [execOp, resolve, h.eq, g.eq, invoke, builtin, hr]
  unfold OpW; rw [hrun]
  have hfr : ∀ k, k ≠ b → (σ.w.freeze ⟨b, 0, none⟩ n).heap[k]? = σ.w.heap[k]? := fun k hk => by
    unfold World.freeze
    split
    · rfl
    · simp only [Array.getElem?_modify]; rw [if_neg (Ne.symm hk)]
  have hsize : (σ.w.freeze ⟨b, 0, none⟩ n).heap.size = σ.w.heap.size := by unfold World.freeze; split <;> simp
  have hmb : σ.M b := r.m _ rfl
  have hos : (σ.w.freeze ⟨b, 0, none⟩ n).os = σ.w.os ∧ (σ.w.freeze ⟨b, 0, none⟩ n).tape = σ.w.tape ∧ (σ.w.freeze ⟨b, 0, none⟩ n).output = σ.w.output := by unfold World.freeze; split <;> exact ⟨rfl, rfl, rfl⟩
  refine ⟨⟨σ.w.freeze ⟨b, 0, none⟩ n, σ.M, fun k hk => by rw [hsize]; exact σ.wf k hk⟩, rfl, hK _ ⟨⟨hos.1, hos.2.1, hos.2.2, by simp only; omega, fun k _ hk => hfr k (fun e => by subst e; exact hk hmb), fun _ _ h => h, fun k _ hk => ⟨hfr k (fun e => hk ⟨_, rfl, e.symm⟩), id⟩, r.typed⟩⟩⟩⟩
end
end Go.Proofs.Ytchdbmnikaacdaa

/- Numbers and keys as bytes: codec.Put, Compact, Bytes, and the reference's, by contract.  -/
set_option linter.all false
set_option maxHeartbeats 40000000
set_option synthInstance.maxHeartbeats 2000000
set_option synthInstance.maxSize 100000
namespace Go.Proofs.Ytchdbmnikaacdaa
open Go Go.RowKit
def byteN (n i : Nat) : UInt8 := UInt8.ofNat (n / 2 ^ min (8 * i) 64)
def leB (w n : Nat) : Bs := (List.range w).map (byteN n)
theorem leB_len (w n : Nat) : (leB w n).length = w := by simp [leB]
instance LenLe.leB {w n : Nat} : LenLe (leB w n) w := ⟨by rw [leB_len]; exact Nat.le_refl _⟩
instance LenLe.key {k : Key} : LenLe k.toList 32 := ⟨by simp⟩
theorem leB_of {xs : Bs} {w n : Nat} (hl : xs.length = w) (h : ∀ k, k < w → xs[k]! = byteN n k) : xs = leB w n := by
  apply List.ext_getElem
  · rw [leB_len, hl]
  · intro i h1 h2
    have := h i (by omega)
    rw [getElem!_pos xs i h1] at this
    rw [this]; simp [leB]
theorem leB_take {w n i : Nat} (h : i < w) : (leB w n).take (i + 1) = (leB w n).take i ++ [byteN n i] := by
  rw [take_snoc (by rw [leB_len]; exact h), getElem!_pos _ i (by rw [leB_len]; exact h)]
  simp [leB]
section
variable {P : Program} {f : Fr} {σ : St} {ty : TypeId}
instance (priority := low) ToNat.mul {j k : Int} {i l : Nat} [h : ToNat j i] [g : ToNat k l] : ToNat (j * k) (i * l) := ⟨by rw [h.eq, g.eq]; simp⟩
instance StepV.shr_nat {k' : IntKind} {a b : Int} {n m : Nat} {t u : TypeId} {x y : Operand} [h : Ev f x (.int .u64 a)] [g : Ev f y (.int k' b)] [q : ToNat a n] [q' : ToNat b m] : StepV P (.binOp .shr t x y u) ty f σ (.int .u64 ((n / 2 ^ min m 64 : Nat) : Int)) := ⟨by
  have e1 := q.eq; have e2 := q'.eq
  subst e1; subst e2
  have hr := shift_shr_any .u64 k' (n : Int) (m : Int) (by omega)
  have hb : IntKind.u64.bits = 64 := rfl
  simp only [Int.toNat_natCast, hb] at hr
  simp [execOp, h.eq, g.eq, binOp, eqGuard, hr, program, Sem.run]⟩
instance (priority := 500) StepV.conv_low8 {src dst : TypeId} {d : TypeDesc} {a : Int} {n : Nat} {x : Operand} [h : Ev f x (.int .u64 a)] [us : U P src d] [ud : U P dst (.int .u8)] [q : ToNat a n] : StepV P (.convert src dst x) ty f σ (.int .u8 ((UInt8.ofNat n).toNat : Int)) := ⟨by
  have e1 := q.eq
  subst e1
  have hm : IntKind.u8.wrap (n : Int) = ((UInt8.ofNat n).toNat : Int) := by rw [IntKind.wrap_u8]; simp
  simp [execOp, h.eq, conv_run us ud, hm]⟩
end
section
variable {σ : St} {j jw : Int} {n w : Nat} {k : Key}
instance rule_ref_Put [q : ToNat j n] [qw : ToNat jw w] : CallRule Try.prog 18 [.int .u64 j, .int .i64 jw] σ (fun K _ => (1 ≤ w ∧ w ≤ 8) ∧ ∀ σ', Nx σ σ' .no → K (sv (leB w n)) σ') := ⟨fun K E hK => by
  obtain ⟨⟨hw1, hw⟩, hK⟩ := hK
  have e1 := q.eq; have e2 := qw.eq
  subst e1; subst e2
  haveI : BV (decide ((w : Int) < 1)) false := ⟨by simp; omega⟩
  haveI : BV (decide ((w : Int) > 8)) false := ⟨by simp; omega⟩
  haveI : BV (decide (8 < (w : Int))) false := ⟨by simp; omega⟩
  refine calls_enter Try.func18 rfl _ Try.ntmps18 rfl ?_
  (repeat (first | refine go ?_ | refine goR ?_ | refine goS (fun yc hyc => ?_) | refine goL (fun _ _ => inferInstance) ?_ | with_reducible intro _ | refine goO (by first | omega | (simp only [List.length_cons, List.length_nil]; omega)) ?_ | fail))
  rename Option Addr => A0
  rename St => s0
  refine WC.loopW 134201440 (.row A0 5) (fun (i : Nat) f s => At f 6 (.int .i64 (i : Int)) ∧ i ≤ w ∧ ∃ A1 c1, At f 5 (.slice A1 i c1) ∧ Row s A1 i c1 5 u8E ((leB w n).take i) ∧ RowNew s0 A0 A1) (fun i => w - i) 0
    ⟨At.to (.int .i64 0) rfl, Nat.zero_le _, _, _, inferInstance, by rw [List.take_zero]; infer_instance, Gr.rn inferInstance⟩ ?_
  rintro i f s ha hs ⟨a6, hi, A1, c1, a5, hr, hrn⟩
  by_cases hlt : i < w
  · haveI : BV (decide ((i : Int) < (w : Int))) true := ⟨by simpa using hlt⟩
    haveI : Fits .i64 (8 * (i : Int)) := Fits.i64 (by omega) (by omega)
    haveI : Fits .i64 ((i : Int) + 1) := Fits.i64 (by omega) (by omega)
    (repeat (first | refine go ?_ | refine goR ?_ | refine goS (fun yc hyc => ?_) | refine goL (fun _ _ => inferInstance) ?_ | with_reducible intro _ | refine goO (by first | omega | (simp only [List.length_cons, List.length_nil]; omega)) ?_ | fail))
    refine loop_w (i + 1) ⟨At.to (.int .i64 ((i : Int) + 1)) (by simp), hlt, _, _, inferInstance, by rw [leB_take hlt]; infer_instance, Gr.rn inferInstance⟩ (by omega)
  · haveI : BV (decide ((i : Int) < (w : Int))) false := ⟨by simpa using hlt⟩
    have e : i = w := by omega
    subst e
    rw [take_all (by rw [leB_len])] at hr
    (repeat (first | refine go ?_ | refine goR ?_ | refine goS (fun yc hyc => ?_) | refine goL (fun _ _ => inferInstance) ?_ | with_reducible intro _ | refine goO (by first | omega | (simp only [List.length_cons, List.length_nil]; omega)) ?_ | fail))
    exact backN (σ0 := σ) Try.results18 (fun σ' _ _ => hK σ' inferInstance)⟩
instance rule_ref_Compact [q : ToNat j n] : CallRule Try.prog 19 [.int .u64 j] σ (fun K _ => (n < 253) ∧ ∀ σ', Nx σ σ' .no → K (sv (leB 1 n)) σ') := ⟨fun K E hK => by
  obtain ⟨hn, hK⟩ := hK
  have e1 := q.eq
  subst e1
  haveI : BV (decide ((n : Int) < 253)) true := ⟨by simp; omega⟩
  refine calls_enter Try.func19 rfl _ Try.ntmps19 rfl ?_
  (repeat (first | refine go ?_ | refine goR ?_ | refine goS (fun yc hyc => ?_) | refine goL (fun _ _ => inferInstance) ?_ | with_reducible intro _ | refine goO (by first | omega | (simp only [List.length_cons, List.length_nil]; omega)) ?_ | fail))
  exact backN (σ0 := σ) Try.results19 (fun σ' _ _ => hK σ' inferInstance)⟩
instance rule_ref_Bytes : CallRule Try.prog 20 [.agg (kc k)] σ (fun K _ => ∀ σ', Nx σ σ' .no → K (sv k.toList) σ') := ⟨fun K E hK => by
  have hkl : k.toList.length = 32 := by simp
  refine calls_enter Try.func20 rfl _ Try.ntmps20 rfl ?_
  (repeat (first | refine go ?_ | refine goR ?_ | refine goS (fun yc hyc => ?_) | refine goL (fun _ _ => inferInstance) ?_ | with_reducible intro _ | refine goO (by first | omega | (simp only [List.length_cons, List.length_nil]; omega)) ?_ | fail))
  rename Option Addr => A0
  rename St => s0
  refine WC.loopW 65496 (.row A0 5) (fun (i : Nat) f s => At f 4 (.int .i64 (i : Int)) ∧ i ≤ 32 ∧ ∃ A1 c1, At f 3 (.slice A1 i c1) ∧ Row s A1 i c1 5 u8E (k.toList.take i) ∧ RowNew s0 A0 A1) (fun i => 32 - i) 0
    ⟨At.to (.int .i64 0) rfl, Nat.zero_le _, _, _, inferInstance, by rw [List.take_zero]; infer_instance, Gr.rn inferInstance⟩ ?_
  rintro i f s ha hs ⟨a6, hi, A1, c1, a5, hr, hrn⟩
  by_cases hlt : i < 32
  · haveI : BV (decide ((i : Int) < 32)) true := ⟨by simp; omega⟩
    haveI : IdxLt i 32 := ⟨hlt⟩
    haveI : Fits .i64 ((i : Int) + 1) := Fits.i64 (by omega) (by omega)
    have hst : k.toList.take (i + 1) = k.toList.take i ++ [k[i]!] := by
      rw [take_snoc (by omega), getElem!_pos _ i (by omega), getElem!_pos k i hlt]; simp
    (repeat (first | refine go ?_ | refine goR ?_ | refine goS (fun yc hyc => ?_) | refine goL (fun _ _ => inferInstance) ?_ | with_reducible intro _ | refine goO (by first | omega | (simp only [List.length_cons, List.length_nil]; omega)) ?_ | fail))
    refine loop_w (i + 1) ⟨At.to (.int .i64 ((i : Int) + 1)) (by simp), hlt, _, _, inferInstance, by rw [hst]; infer_instance, Gr.rn inferInstance⟩ (by omega)
  · haveI : BV (decide ((i : Int) < 32)) false := ⟨by simp; omega⟩
    have e : i = 32 := by omega
    subst e
    rw [take_all (by omega)] at hr
    (repeat (first | refine go ?_ | refine goR ?_ | refine goS (fun yc hyc => ?_) | refine goL (fun _ _ => inferInstance) ?_ | with_reducible intro _ | refine goO (by first | omega | (simp only [List.length_cons, List.length_nil]; omega)) ?_ | fail))
    exact backN (σ0 := σ) Try.results20 (fun σ' _ _ => hK σ' inferInstance)⟩
end
end Go.Proofs.Ytchdbmnikaacdaa

/- Numbers of 32 bits as words; arrays of them; strings that are read, and become bytes.  -/
set_option linter.all false
set_option maxHeartbeats 40000000
set_option synthInstance.maxHeartbeats 2000000
set_option synthInstance.maxSize 100000
namespace Go.Proofs.Ytchdbmnikaacdaa
open Go Go.RowKit
def shrN (x : UInt32) (n : Nat) : UInt32 := UInt32.ofNat (x.toNat / 2 ^ min n 32)
def shlN (x : UInt32) (n : Nat) : UInt32 := UInt32.ofNat (x.toNat * 2 ^ min n 32)
theorem shrN_nat (x : UInt32) (n : Nat) : (shrN x n).toNat = x.toNat / 2 ^ min n 32 := by
  unfold shrN
  have h1 := x.toNat_lt
  have h2 : x.toNat / 2 ^ min n 32 ≤ x.toNat := Nat.div_le_self _ _
  rw [UInt32.toNat_ofNat']
  exact Nat.mod_eq_of_lt (by omega)
theorem bv32 (x : UInt32) : BitVec.ofInt 32 (x.toNat : Int) = x.toBitVec := by
  apply BitVec.eq_of_toNat_eq
  have := x.toNat_lt
  rw [BitVec.toNat_ofInt]
  show (((x.toNat : Int) % 4294967296).toNat) = x.toNat
  omega
section
variable {P : Program} {f : Fr} {σ : St} {ty : TypeId}
instance (priority := 500) StepV.u32_add {a b : Int} {u v : UInt32} {t t2 : TypeId} {x y : Operand} [h : Ev f x (.int .u32 a)] [g : Ev f y (.int .u32 b)] [p : U32 a u] [q : U32 b v] : StepV P (.binOp .add t x y t2) ty f σ (.int .u32 ((u + v).toNat : Int)) := ⟨by
  have e1 := p.eq; have e2 := q.eq
  subst e1; subst e2
  have hm : IntKind.u32.wrap ((u.toNat : Int) + (v.toNat : Int)) = ((u + v).toNat : Int) := by
    rw [IntKind.wrap_u32, UInt32.toNat_add]; omega
  simp [execOp, h.eq, g.eq, binOp, eqGuard, Op.intArith, hm]⟩
instance StepV.u32_shr {k' : IntKind} {a b : Int} {u : UInt32} {m : Nat} {t t2 : TypeId} {x y : Operand} [h : Ev f x (.int .u32 a)] [g : Ev f y (.int k' b)] [p : U32 a u] [q : ToNat b m] : StepV P (.binOp .shr t x y t2) ty f σ (.int .u32 ((shrN u m).toNat : Int)) := ⟨by
  have e1 := p.eq; have e2 := q.eq
  subst e1; subst e2
  have hr := shift_shr_any .u32 k' (u.toNat : Int) (m : Int) (by omega)
  have hb : IntKind.u32.bits = 32 := rfl
  simp only [Int.toNat_natCast, hb] at hr
  have e : ((u.toNat : Int) / 2 ^ min m 32) = ((shrN u m).toNat : Int) := by rw [shrN_nat]; simp
  rw [e] at hr
  simp [execOp, h.eq, g.eq, binOp, eqGuard, hr, program, Sem.run]⟩
instance StepV.u32_shl {k' : IntKind} {a b : Int} {u : UInt32} {m : Nat} {t t2 : TypeId} {x y : Operand} [h : Ev f x (.int .u32 a)] [g : Ev f y (.int k' b)] [p : U32 a u] [q : ToNat b m] : StepV P (.binOp .shl t x y t2) ty f σ (.int .u32 ((shlN u m).toNat : Int)) := ⟨by
  have e1 := p.eq; have e2 := q.eq
  subst e1; subst e2
  have hr := shift_shl_any .u32 k' (u.toNat : Int) (m : Int) (by omega)
  have hb : IntKind.u32.bits = 32 := rfl
  simp only [Int.toNat_natCast, hb] at hr
  have e : IntKind.u32.wrap ((u.toNat : Int) * 2 ^ min m 32) = ((shlN u m).toNat : Int) := by
    rw [IntKind.wrap_u32]
    unfold shlN
    rw [UInt32.toNat_ofNat']
    simp
  rw [e] at hr
  simp [execOp, h.eq, g.eq, binOp, eqGuard, hr, program, Sem.run]⟩
theorem wrap_u32_bv (r : BitVec 32) : IntKind.u32.wrap (r.toNat : Int) = (r.toNat : Int) := by
  rw [IntKind.wrap_u32]; have := r.isLt; omega
instance StepV.u32_xor {a b : Int} {u v : UInt32} {t t2 : TypeId} {x y : Operand} [h : Ev f x (.int .u32 a)] [g : Ev f y (.int .u32 b)] [p : U32 a u] [q : U32 b v] : StepV P (.binOp .xor t x y t2) ty f σ (.int .u32 ((u ^^^ v).toNat : Int)) := ⟨by
  have e1 := p.eq; have e2 := q.eq
  subst e1; subst e2
  have hr : Op.intBits .xor .u32 (u.toNat : Int) (v.toNat : Int) = (pure (.int .u32 ((u ^^^ v).toNat : Int)) : Sem Value) := by
    show (pure (.int .u32 (IntKind.u32.wrap ((BitVec.ofInt 32 (u.toNat : Int) ^^^ BitVec.ofInt 32 (v.toNat : Int)).toNat : Int))) : Sem Value) = _
    rw [bv32, bv32, wrap_u32_bv]; rfl
  simp [execOp, h.eq, g.eq, binOp, eqGuard, hr, program, Sem.run]⟩
instance StepV.u32_or {a b : Int} {u v : UInt32} {t t2 : TypeId} {x y : Operand} [h : Ev f x (.int .u32 a)] [g : Ev f y (.int .u32 b)] [p : U32 a u] [q : U32 b v] : StepV P (.binOp .or t x y t2) ty f σ (.int .u32 ((u ||| v).toNat : Int)) := ⟨by
  have e1 := p.eq; have e2 := q.eq
  subst e1; subst e2
  have hr : Op.intBits .or .u32 (u.toNat : Int) (v.toNat : Int) = (pure (.int .u32 ((u ||| v).toNat : Int)) : Sem Value) := by
    show (pure (.int .u32 (IntKind.u32.wrap ((BitVec.ofInt 32 (u.toNat : Int) ||| BitVec.ofInt 32 (v.toNat : Int)).toNat : Int))) : Sem Value) = _
    rw [bv32, bv32, wrap_u32_bv]; rfl
  simp [execOp, h.eq, g.eq, binOp, eqGuard, hr, program, Sem.run]⟩
instance StepV.u32_and {a b : Int} {u v : UInt32} {t t2 : TypeId} {x y : Operand} [h : Ev f x (.int .u32 a)] [g : Ev f y (.int .u32 b)] [p : U32 a u] [q : U32 b v] : StepV P (.binOp .and t x y t2) ty f σ (.int .u32 ((u &&& v).toNat : Int)) := ⟨by
  have e1 := p.eq; have e2 := q.eq
  subst e1; subst e2
  have hr : Op.intBits .and .u32 (u.toNat : Int) (v.toNat : Int) = (pure (.int .u32 ((u &&& v).toNat : Int)) : Sem Value) := by
    show (pure (.int .u32 (IntKind.u32.wrap ((BitVec.ofInt 32 (u.toNat : Int) &&& BitVec.ofInt 32 (v.toNat : Int)).toNat : Int))) : Sem Value) = _
    rw [bv32, bv32, wrap_u32_bv]; rfl
  simp [execOp, h.eq, g.eq, binOp, eqGuard, hr, program, Sem.run]⟩
instance StepV.u32_not {a : Int} {u : UInt32} {t : TypeId} {x : Operand} [h : Ev f x (.int .u32 a)] [p : U32 a u] : StepV P (.unOp .xor t x) ty f σ (.int .u32 ((~~~u).toNat : Int)) := ⟨by
  have e1 := p.eq
  subst e1
  have hr : Op.unary .xor (.int .u32 (u.toNat : Int)) = (pure (.int .u32 ((~~~u).toNat : Int)) : Sem Value) := by
    show (pure (.int .u32 (IntKind.u32.wrap ((BitVec.ofInt 32 (IntKind.u32.max) ^^^ BitVec.ofInt 32 (u.toNat : Int)).toNat : Int))) : Sem Value) = _
    rw [bv32, wrap_u32_bv]
    have e : BitVec.ofInt 32 IntKind.u32.max ^^^ u.toBitVec = (~~~u).toBitVec := by
      rw [show BitVec.ofInt 32 IntKind.u32.max = BitVec.allOnes 32 from by decide, UInt32.toBitVec_not, BitVec.allOnes_xor]
    rw [e]; rfl
  simp [execOp, h.eq, hr]⟩
instance Fits.u8u32 {x : UInt8} : Fits .u32 (x.toNat : Int) := Fits.u32 (by omega) (by have := x.toNat_lt; omega)
instance U32.ofU8 {x : UInt8} : U32 (x.toNat : Int) x.toUInt32 := ⟨by simp⟩
instance (priority := 500) StepV.conv_low32 {src dst : TypeId} {d : TypeDesc} {a : Int} {n : Nat} {x : Operand} [h : Ev f x (.int .u32 a)] [us : U P src d] [ud : U P dst (.int .u8)] [q : ToNat a n] : StepV P (.convert src dst x) ty f σ (.int .u8 ((UInt8.ofNat n).toNat : Int)) := ⟨by
  have e1 := q.eq
  subst e1
  have hm : IntKind.u8.wrap (n : Int) = ((UInt8.ofNat n).toNat : Int) := by rw [IntKind.wrap_u8]; simp
  simp [execOp, h.eq, conv_run us ud, hm]⟩
/-! a number's whole part, by a number that is told -/
instance StepV.quo_nat {k : IntKind} {a b : Int} {i j : Nat} {t u : TypeId} {x y : Operand} [h : Ev f x (.int k a)] [g : Ev f y (.int k b)] [q : ToNat a i] [q' : ToNat b j] [p : PosN j] [e : Fits k ((i / j : Nat) : Int)] : StepV P (.binOp .quo t x y u) ty f σ (.int k ((i / j : Nat) : Int)) :=
  ⟨by
    have e1 := q.eq
    have e2 := q'.eq
    subst e1; subst e2
    have hj : j ≠ 0 := by have := p.pos; omega
    have hm : ((i : Int).tdiv (j : Int)) = ((i / j : Nat) : Int) := (Int.ofNat_tdiv i j).symm
    have he : k.wrap ((i : Int) / (j : Int)) = (i : Int) / (j : Int) := by have := e.eq; simpa using this
    simp [execOp, h.eq, g.eq, binOp, eqGuard, Op.intDiv, hj, hm, he]⟩
/-! strings that are read -/
instance StepV.str_index {k : IntKind} {j : Int} {i : Nat} {v : Value} {s : Bs} {t : TypeId} {x y : Operand} [h : Ev f x v] [sv_ : StrV v s] [g : Ev f y (.int k j)] [q : ToNat j i] [l : IdxLt i s.length] [u : U P t .string] : StepV P (.index t x y) ty f σ (.int .u8 ((s[i]!).toNat : Int)) := ⟨by
  have e1 := sv_.eq; have e2 := q.eq
  subst e1; subst e2
  have hl := l.lt
  have hr := run_index_string (P := P) (w := σ.w) t ⟨s.toArray⟩ k (i : Int) u.h
  rw [dif_pos (by simp [ByteArray.size]; omega)] at hr
  have e : ((⟨s.toArray⟩ : ByteArray)[((i : Int)).toNat]'(by simp [ByteArray.size]; omega)) = s[i]! := by
    rw [getElem!_pos s i hl]; rfl
  rw [e] at hr
  simp [execOp, h.eq, g.eq, hr]⟩
instance StepV.str_slice {k k' : IntKind} {j j' : Int} {lo hi : Nat} {v : Value} {s : Bs} {t : TypeId} {x y z : Operand} [h : Ev f x v] [sv_ : StrV v s] [g : Ev f y (.int k j)] [g' : Ev f z (.int k' j')] [q : ToNat j lo] [q' : ToNat j' hi] [l1 : LeN lo hi] [l2 : LeN hi s.length] [u : U P t .string] : StepV P (.slice t x (some y) (some z) none) ty f σ (sv ((s.drop lo).take (hi - lo))) := ⟨by
  have e1 := sv_.eq; have e2 := q.eq; have e3 := q'.eq
  subst e1; subst e2; subst e3
  have h1 := l1.le; have h2 := l2.le
  have hr := run_slice_string (P := P) (w := σ.w) t ⟨s.toArray⟩ k k' (lo : Int) (hi : Int) u.h (by omega) (by omega) (by simp [ByteArray.size]; omega)
  rw [Int.toNat_natCast, Int.toNat_natCast, ByteArray.extract_mk] at hr
  simp [execOp, h.eq, g.eq, g'.eq, Instr.sliceAt, hr, run_underlying u.h]⟩
end
instance (priority := low) EncV.u8n {σ : St} {n : Int} {x : UInt8} [h : U8 n x] : EncV σ u8E (.int .u8 n) x := ⟨by rw [h.eq], trivial⟩
instance (priority := low) EncV.u32n {σ : St} {n : Int} {x : UInt32} [h : U32 n x] : EncV σ u32E (.int .u32 n) x := ⟨by rw [h.eq], trivial⟩
/-! names for what a walk brought -/
theorem Own.ex {σ : St} {b : Nat} {t : TypeId} {cs : Array Value} (_ : Own σ b t cs) : ∃ b', b' = b := ⟨b, rfl⟩
theorem Row.ex {σ : St} {A : Option Addr} {n c : Nat} {t : TypeId} {α : Type} {E : Elem α} {xs : List α} (_ : Row σ A n c t E xs) : ∃ A', A' = A := ⟨A, rfl⟩
/-! arrays of words -/
def aw (l : List UInt32) : Array Value := (l.map fun x => Value.int .u32 (x.toNat : Int)).toArray
class LenU (l : List UInt32) (n : outParam Nat) : Prop where
  eq : l.length = n
theorem aw_size (l : List UInt32) : (aw l).size = l.length := by simp [aw]
instance CSz.aw_ {l : List UInt32} {n : Nat} [h : LenU l n] : CSz (aw l) n := ⟨by rw [aw_size, h.eq], fun v hv => by
  simp only [aw, List.mem_map] at hv
  obtain ⟨x, _, rfl⟩ := hv; rfl⟩
instance LenU.set {l : List UInt32} {n i : Nat} {x : UInt32} [h : LenU l n] : LenU (l.set i x) n := ⟨by rw [List.length_set]; exact h.eq⟩
instance LoadV.aw_ {l : List UInt32} {n i : Nat} [h : LenU l n] [k : IdxLt i n] : LoadV (aw l) i 1 false (.int .u32 ((l[i]!).toNat : Int)) :=
  ⟨by have := k.lt; have := h.eq; rw [aw_size]; omega, nofun, fun _ => ⟨by
    have := k.lt; have := h.eq
    rw [getElem!_pos l i (by omega)]
    simp [aw, List.getElem?_eq_getElem (show i < l.length by omega)], rfl⟩⟩
instance PutV.aw_ {l : List UInt32} {n i : Nat} {j : Int} {x : UInt32} [h : LenU l n] [k : IdxLt i n] [u : U32 j x] : PutV (aw l) i #[.int .u32 j] (aw (l.set i x)) :=
  ⟨by have := k.lt; have := h.eq; rw [aw_size]; simp; omega, by
    have hi := k.lt; have hl := h.eq
    have hu := u.eq; subst hu
    apply Array.ext'
    unfold putCells aw
    simp only [List.map_set]
    rw [List.set_eq_take_append_cons_drop, if_pos (by simp; omega)]
    simp⟩
/-- the elements of a literal, as words -/
class U32L (vs : List Value) (xs : outParam (List UInt32)) : Prop where
  eq : vs = xs.map fun x => .int .u32 (x.toNat : Int)
instance U32L.nil : U32L [] [] := ⟨rfl⟩
instance U32L.cons {a : Int} {vs : List Value} {x : UInt32} {xs : List UInt32} [h : U32 a x] [g : U32L vs xs] : U32L (.int .u32 a :: vs) (x :: xs) := ⟨by rw [h.eq, g.eq]; rfl⟩
theorem fill_all : ∀ (vs : List Value) (cs : Array Value) (k : Nat), (∀ v ∈ vs, v.cells = #[v]) → k + vs.length ≤ cs.size →
    Instr.fill (fun i => some (i * 1, 1)) cs ((vs.zipIdx k).map fun (v, i) => (i, v)) = some (cs.toList.take k ++ vs ++ cs.toList.drop (k + vs.length)).toArray
  | [], cs, k, _, _ => by simp [Instr.fill]
  | v :: vs, cs, k, h, hl => by
    have hv := h v (by simp)
    simp only [List.zipIdx_cons, List.map_cons, Instr.fill, Nat.mul_one]
    have hsz : v.cells.size = 1 := by rw [hv]; rfl
    simp only [List.length_cons] at hl
    have hlt : k < cs.size := by omega
    rw [hv]
    have e0 : ¬ (decide ((#[v] : Array Value).size ≠ 1) || decide (k + (#[v] : Array Value).size > cs.size)) = true := by simp; omega
    rw [if_neg e0]
    have e1 : (#[v] : Array Value).zipIdx.foldl (fun cs (c, j) => cs.setIfInBounds (k + j) c) cs = cs.setIfInBounds k v := by simp
    rw [e1]
    have ih := fill_all vs (cs.setIfInBounds k v) (k + 1) (fun u hu => h u (by simp [hu])) (by simp; omega)
    simp only [Nat.mul_one] at ih
    rw [ih]
    congr 2
    have e := list_seg_step cs.toList k v vs (by simp; omega)
    simpa [Array.toList_setIfInBounds, Nat.add_assoc, Nat.add_comm] using e
class LenVn (vs : List Value) (n : Nat) : Prop where
  eq : vs.length = n
class LenVo (vs : List Value) (n : outParam Nat) : Prop where
  eq : vs.length = n
instance LenVo.nil : LenVo [] 0 := ⟨rfl⟩
instance LenVo.cons {v : Value} {vs : List Value} {n : Nat} [h : LenVo vs n] : LenVo (v :: vs) (n + 1) := ⟨by rw [List.length_cons, h.eq]⟩
instance LenVn.of {vs : List Value} {m n : Nat} [h : LenVo vs m] [e : EqB (Nat.beq m n) true] : LenVn vs n := ⟨h.eq.trans (Nat.eq_of_beq_eq_true e.eq)⟩
instance (priority := low) StepV.build_words {P : Program} {f : Fr} {σ : St} {ty t e : TypeId} {n bytes : Nat} {cs : Array Value} {ps : List (Nat × Operand)} {vs : List Value} {xs : List UInt32} [u : U P t (.array n e)] [ti : TI P e false 1 bytes] [tz : TZ P t cs] [zl : CSz cs n] [pl : PartsL f 0 ps vs] [ul : U32L vs xs] [ln : LenVn vs n] :
    StepV P (.build t ps.toArray) ty f σ (.agg (aw xs)) := ⟨by
  have hu := ul.eq
  have hl := ln.eq
  have hcells : ∀ v ∈ vs, v.cells = #[v] := by
    intro v hv
    rw [hu] at hv
    obtain ⟨x, _, rfl⟩ := List.mem_map.1 hv
    rfl
  have hf := fill_all vs cs 0 hcells (by rw [zl.size]; omega)
  have hd : cs.toList.drop (0 + vs.length) = [] := List.drop_eq_nil_of_le (by simp [zl.size]; omega)
  rw [hd, List.take_zero, List.nil_append, List.append_nil] at hf
  have hp := pl.eq
  have e1 : (ps.toArray.map fun p => (p.1, evo f p.2)).toList = (vs.zipIdx 0).map fun (v, i) => (i, v) := by simpa using hp
  rw [← e1] at hf
  have hr := run_build_arr (w := σ.w) u ti tz (ps.toArray.map fun p => (p.1, evo f p.2)) hf
  have e2 : vs.toArray = aw xs := by rw [hu]; rfl
  rw [e2] at hr
  simp only [execOp]
  rw [Sem.run_bind]
  have e3 : (ps.toArray.map fun (x : Nat × Operand) => (x.1, evo f x.2)) = (ps.toArray.map fun p => (p.1, evo f p.2)) := rfl
  first
    | (rw [hr]; rfl)
    | (simp only [List.map_toArray] at hr ⊢; rw [hr]; rfl)⟩
/-! a string's bytes as a row: its block is marked behind its end -/
class RowG (σ : St) (A : Option Addr) (n c : outParam Nat) (t : outParam TypeId) (xs : outParam Bs) : Prop where
  len : xs.length = n
  le : n ≤ c
  max : c ≤ maxLen
  full : (A = none ∧ c = 0) ∨ ∃ b zs fz, A = some ⟨b, 0, none⟩ ∧ σ.w.heap[b]? = some (.cells (u8E.flat zs).toArray t fz) ∧ (fz = (0, 0) ∨ c ≤ fz.1) ∧ zs.length = c ∧ zs.take n = xs
  m : ∀ a, A = some a → σ.M a.block
section
variable {P : Program} {σ σ' : St} {A : Option Addr} {n c : Nat} {t : TypeId} {xs : Bs}
theorem flat8 (xs : Bs) : (u8E.flat xs).length = xs.length := by rw [u8E.flat_length]; show xs.length * 1 = _; omega
instance (priority := low) Rd.ofG [h : RowG σ A n c t xs] : Rd σ A n c u8E xs := by
  have hm := h.max
  have hle := h.le
  simp only [maxLen] at hm
  refine ⟨h.len, hle, by omega, fun _ _ => trivial, ?_⟩
  rcases h.full with ⟨_, hc⟩ | ⟨b, zs, fz, e, hh, _, hz, hx⟩
  · exact .inl (by omega)
  · refine .inr ⟨b, 0, e, fun j v hj => ?_⟩
    rw [cell_own hh, Nat.zero_add]
    rw [← hx, ← Nat.mul_one n, ← show u8E.sz = 1 from rfl, ← u8E.flat_take, List.getElem?_take] at hj
    split at hj
    · simpa using hj
    · cases hj
theorem RowG.typed (h : RowG σ A n c t xs) : ∀ a, A = some a → ∃ cs fz, σ.w.heap[a.block]? = some (.cells cs t fz) := by
  intro a ha
  rcases h.full with ⟨e, _⟩ | ⟨b, zs, fz, ea, hh, _⟩
  · rw [ha] at e; cases e
  · rw [ha] at ea; injection ea with ea; subst ea; exact ⟨_, _, hh⟩
theorem RowG.lift {X : Xs} (nx : NxP σ σ' X) (h : RowG σ A n c t xs) (hx : ∀ a, A = some a → ¬ X.hits a.block) : RowG σ' A n c t xs := by
  refine ⟨h.len, h.le, h.max, ?_, fun a ha => ((nx.own _ (σ.wf _ (h.m a ha)) (hx a ha)).2 (h.m a ha))⟩
  rcases h.full with h1 | ⟨b, zs, fz, ea, hh, hf, hz, ht⟩
  · exact .inl h1
  · exact .inr ⟨b, zs, fz, ea, ((nx.own b (σ.wf _ (h.m _ ea)) (hx _ ea)).1).trans hh, hf, hz, ht⟩
instance (priority := low) RowG.lift_ {X : Xs} [nx : Nx σ σ' X] [h : RowG σ A n c t xs] [k : MisR σ X A t] : RowG σ' A n c t xs := h.lift nx.p (k.h h.typed nx.p.ty)
instance (priority := low) TydG.row [r : RowG σ A n c t xs] : Tyd σ (.row A t) := ⟨r.typed⟩
instance (priority := low) StepV.len_g {f : Fr} {ty tt e : TypeId} {x : Operand} [u : U P tt (.slice e)] [h : Ev f x (.slice A n c)] : StepV P (.call { callee := .builtin .len, args := #[x], argTypes := #[tt] }) ty f σ (.int .i64 n) := inferInstance
theorem storeCells_tail (g o : Nat) (t : TypeId) (fz : Nat × Nat) : ∀ (vs : List Value) (i : Nat) (cur : Array Value) (w : World), w.heap[g]? = some (.cells cur t fz) → (fz = (0, 0) ∨ o + i + vs.length ≤ fz.1) → o + i + vs.length ≤ cur.size → (∀ v ∈ vs, v.oneCell' = true) →
    (storeCells ⟨g, o, none⟩ vs i).run P w = .ok () (w.setRow g (cur.toList.take (o + i) ++ vs ++ cur.toList.drop (o + i + vs.length)).toArray)
  | [], i, cur, w, hg, _, _, _ => by
    simp only [storeCells, List.append_nil, List.length_nil, Nat.add_zero, List.take_append_drop, Array.toArray_toList]
    rw [setRow_self w g cur t fz hg]
    rfl
  | v :: rest, i, cur, w, hg, hfz, hl, h1 => by
    have hi : o + i < cur.size := by simp at hl; omega
    have hcell : w.cell? ⟨g, o + i, none⟩ = some cur[o + i] := by simp [World.cell?, hg, hi]
    have hfro : w.frozen? ⟨g, o + i, none⟩ = false := by
      rcases hfz with rfl | hfz
      · simp [World.frozen?, hg]
      · obtain ⟨lo, hi'⟩ := fz
        simp only [World.frozen?, hg, Bool.and_eq_false_iff, decide_eq_false_iff_not]
        left
        simp only [List.length_cons] at hfz
        omega
    have hst : (store ((⟨g, o, none⟩ : Addr).add i) v).run P w = .ok () (w.setRow g (cur.setIfInBounds (o + i) v)) := by
      rw [add_at, run_store P w _ v _ (h1 v (by simp)), hcell]
      simp [hfro, setCell_eq_setRow w g (o + i) cur t fz v hg]
    have ih := storeCells_tail g o t fz rest (i + 1) (cur.setIfInBounds (o + i) v) (w.setRow g (cur.setIfInBounds (o + i) v)) (setRow_heap w g cur _ t _ hg) (by rcases hfz with h | h; exact .inl h; exact .inr (by simp at h ⊢; omega)) (by simp at hl ⊢; omega) (fun x hx => h1 x (by simp [hx]))
    simp only [storeCells, Sem.run_bind, hst, Result.andThen_ok, ih, setRow_setRow]
    congr 3
    have e := list_seg_step cur.toList (o + i) v rest (by simp at hl ⊢; omega)
    simpa [Array.toList_setIfInBounds, Nat.add_assoc] using e
end
theorem st_setG {σ : St} {b : Nat} {t : TypeId} {cs : Array Value} {fz : Nat × Nat} (hm : σ.M b) (h : σ.w.heap[b]? = some (.cells cs t fz)) (cs' : Array Value) : ∃ σ' : St, σ'.w = σ.w.setRow b cs' ∧ NxP σ σ' (.one b t) ∧ σ'.M b ∧ σ'.w.heap[b]? = some (.cells cs' t fz) := by
  have hz : (σ.w.setRow b cs').heap.size = σ.w.heap.size := by simp [World.setRow]
  have hne : ∀ k, k ≠ b → (σ.w.setRow b cs').heap[k]? = σ.w.heap[k]? := fun k hk => by
    simp only [World.setRow, Array.getElem?_modify]; rw [if_neg (Ne.symm hk)]
  exact ⟨⟨σ.w.setRow b cs', σ.M, fun k hk => by rw [hz]; exact σ.wf k hk⟩, rfl, ⟨rfl, rfl, rfl, by rw [hz]; exact Nat.le_refl _, fun k _ hk => hne k (fun e => hk (e ▸ hm)), fun _ _ h => h, fun k _ hk => ⟨hne k hk, id⟩, ⟨_, _, h⟩⟩, hm, setRow_heap _ _ _ _ _ _ h⟩
section
variable {P : Program} {σ σ' : St} {A B : Option Addr} {n c m d : Nat} {t e : TypeId} {xs ys : Bs} {f : Fr} {ty : TypeId}
theorem append_rowG (r : RowG σ A n c e xs) (s : Rd σ B m d u8E ys) (ut : U P t (.slice e)) (eo : ElemOf P e u8E 1) (ze : ZeroE P e u8E 0) (hm0 : 0 < m) (hb : n + m ≤ 140737488355328) :
    ∃ σ' A' c', (Builtin.append_ #[t, t] ty #[.slice A n c, .slice B m d]).run P σ.w = .ok (.slice A' (n + m) c') σ'.w ∧ NxP σ σ' (.row A e) ∧ RowNew σ A A' ∧ RowG σ' A' (n + m) c' e (xs ++ ys) := by
  have hmx : n + m ≤ maxLen := by simp only [maxLen]; omega
  obtain ⟨d0, i, hd0, hag, hi, hsz, hby⟩ := eo.ti.h
  obtain ⟨i', zv, hi', hz, hzc⟩ := ze.h
  rw [hi] at hi'; injection hi' with hi'; subst hi'
  have hszn : i.size = 1 := hsz
  have hlen : xs.length = n := r.len
  have hl2 : ys.length = m := s.len
  have hzv : zv.cells = #[.int .u8 0] := hzc
  have hzs : zv.cells.size = i.size := by rw [hzv, hszn]; rfl
  obtain ⟨ad, hB⟩ : ∃ ad, B = some ad := by
    rcases s.rd with h0 | ⟨b, o, ha, _⟩
    · omega
    · exact ⟨_, ha⟩
  subst hB
  have cells_ys : ∀ j v, (u8E.flat ys)[j]? = some v → σ.w.cell? (ad.add j) = some v := by
    intro j v hv
    rcases s.rd with h0 | ⟨b, o, ha, hc⟩
    · omega
    · injection ha with ha; subst ha
      rw [add_at]; exact hc j v hv
  have hlx : (xs ++ ys).length = n + m := by simp [hl2, hlen]
  have grown : ∀ old, old < n + m → ∃ σ', σ'.w = σ.w.drew.alloc (.cells ((u8E.flat xs).toArray ++ (u8E.flat ys).toArray ++ Builtin.zeroCells zv.cells (grownCap σ.w (n + m) old e - (n + m))) e) ∧ NxP σ σ' (.row A e) ∧
      RowNew σ A (some ⟨σ.w.heap.size, 0, none⟩) ∧ RowG σ' (some ⟨σ.w.heap.size, 0, none⟩) (n + m) (grownCap σ.w (n + m) old e) e (xs ++ ys) := by
    intro old ho
    have hge := grownCap_ge σ.w (n + m) old e
    have hcm : grownCap σ.w (n + m) old e ≤ maxLen := grownCap_le_maxLen σ.w (n + m) old e hmx
    obtain ⟨σ1, hw1, hn1⟩ := st_drew σ (σ.w.drawn + 1)
    obtain ⟨σ2, hw2, hn2, hm2, hm2', ho2, hs2⟩ := st_new σ1 (.cells ((u8E.flat xs).toArray ++ (u8E.flat ys).toArray ++ Builtin.zeroCells zv.cells (grownCap σ.w (n + m) old e - (n + m))) e) True
    have hz1 : σ1.w.heap.size = σ.w.heap.size := by rw [hw1]
    have hd : σ1.w = σ.w.drew := hw1
    have hn3 : NxP σ σ2 (.row A e) := ⟨hn2.os.trans hn1.os, hn2.tape.trans hn1.tape, hn2.output.trans hn1.output, Nat.le_trans hn1.size hn2.size, fun b hb hb' => (hn2.imm b (by omega) (fun h => hb' (hn1.mm b hb h))).trans (hn1.imm b hb hb'),
      fun b hb h => hn1.mm b hb (hn2.mm b (by omega) h), fun b hb _ => ⟨((hn2.own b (by omega) id).1).trans (hn1.own b hb id).1, fun h => (hn2.own b (by omega) id).2 ((hn1.own b hb id).2 h)⟩, r.typed⟩
    have hfl : (u8E.flat xs).toArray ++ (u8E.flat ys).toArray ++ Builtin.zeroCells zv.cells (grownCap σ.w (n + m) old e - (n + m)) = (u8E.flat (xs ++ ys ++ List.replicate (grownCap σ.w (n + m) old e - (n + m)) 0)).toArray := by
      rw [zeroCells_flat u8E 0 _ hzc]; simp [Elem.flat_append]
    refine ⟨σ2, by rw [hw2, hd], hn3, ⟨fun a' ha' => ?_⟩, ⟨hlx, hge, hcm, .inr ⟨σ.w.heap.size, _, (0, 0), rfl, by rw [hz1] at ho2; rw [ho2, hfl], .inl rfl, by simp [hl2, hlen]; omega, by rw [List.take_append_of_le_length (by simp [hl2, hlen]), List.take_of_length_le (by simp [hl2, hlen])]⟩, fun a ha => ?_⟩⟩
    · injection ha' with ha'; subst ha'; exact .inr (Nat.le_refl _)
    · injection ha with ha; subst ha; rw [hz1] at hm2; exact hm2.2 trivial
  rcases r.full with ⟨ea, hc0⟩ | ⟨b, zs, fz, ea, hh, hfz, hzl, hzt⟩
  · have hle := r.le
    have hn0 : n = 0 := by omega
    subst ea; subst hc0; subst hn0
    have hx : xs = [] := List.eq_nil_of_length_eq_zero hlen
    subst hx
    have hr := run_append_nil (P := P) σ.w t ty e i zv ut.h hi hz ad m d (u8E.flat ys) (by rw [flat8, hl2, hszn]; omega) cells_ys (by omega) (by omega) (by rw [hby]; omega)
    obtain ⟨σ', hw, hn, hrn, hrow⟩ := grown 0 (by omega)
    simp only [Nat.zero_add, Elem.flat_nil, List.nil_append, Array.empty_append] at hr hw hrow ⊢
    exact ⟨σ', _, _, by rw [hw]; exact hr, hn, hrn, hrow⟩
  · subst ea
    have hle := r.le
    have hfx : u8E.flat xs = (u8E.flat zs).take n := by
      rw [← hzt]; have := u8E.flat_take zs n; rw [show n * u8E.sz = n from Nat.mul_one n] at this; exact this.symm
    by_cases hroom : n + m ≤ c
    · obtain ⟨σ', hw, hn, hmb, hh'⟩ := st_setG (r.m _ rfl) hh (u8E.flat (zs.take n ++ ys ++ zs.drop (n + m))).toArray
      have hfit : n + (u8E.flat ys).length ≤ (u8E.flat zs).toArray.size := by simp only [List.size_toArray, flat8, hl2, hzl]; exact hroom
      have hst := storeCells_tail (P := P) b n e fz (u8E.flat ys) 0 (u8E.flat zs).toArray σ.w hh (by rcases hfz with h | h; exact .inl h; exact .inr (by rw [flat8, hl2]; omega)) (by simpa using hfit) u8E.flat_one
      have hf := run_firstCells_some (P := P) σ.w i.size m ad m d (u8E.flat ys) (by rw [flat8, hl2, hszn]; omega) cells_ys
      have e1 : (List.take n (u8E.flat zs).toArray.toList ++ u8E.flat ys ++ List.drop (n + (u8E.flat ys).length) (u8E.flat zs).toArray.toList).toArray = (u8E.flat (zs.take n ++ ys ++ zs.drop (n + m))).toArray := by
        rw [Elem.flat_append, Elem.flat_append, flat8, hl2]
        have h1 := u8E.flat_take zs n
        have h2 := u8E.flat_drop zs (n + m)
        rw [show n * u8E.sz = n from Nat.mul_one n] at h1
        rw [show (n + m) * u8E.sz = n + m from Nat.mul_one _] at h2
        rw [← h1, ← h2]
      simp only [Nat.add_zero] at hst
      rw [e1] at hst
      refine ⟨σ', some ⟨b, 0, none⟩, c, ?_, ?_, ⟨fun a' ha' => .inl ⟨a', ha', rfl⟩⟩, ⟨hlx, hroom, r.max, .inr ⟨b, _, fz, rfl, hh', hfz, by simp [hl2]; omega, by rw [List.take_append_of_le_length (by simp [hl2]; omega), List.take_of_length_le (by simp [hl2]; omega), hzt]⟩, fun a ha => by injection ha with ha; subst ha; exact hmb⟩⟩
      · rw [hw]
        rw [hszn] at hf
        simp only [List.append_assoc] at hst
        simp [Builtin.append_, run_underlying ut.h, sizeOf, typeInfo, hi, Builtin.lenOf, hroom, hf, Addr.add_lit, hszn, hst]
      · exact ⟨hn.os, hn.tape, hn.output, hn.size, hn.imm, hn.mm, fun k hk hx => hn.own k hk (fun hh => hx ⟨_, rfl, hh.symm⟩), r.typed⟩
    · have holds : ∀ j v, (u8E.flat xs)[j]? = some v → σ.w.cell? ((⟨b, 0, none⟩ : Addr).add j) = some v := by
        intro j v hv
        rw [add_at, Nat.zero_add, cell_own hh]
        rw [hfx, List.getElem?_take] at hv
        split at hv
        · simpa using hv
        · cases hv
      have hr := run_append_grow (P := P) σ.w t ty e i zv ut.h hi hz ⟨b, 0, none⟩ n c (u8E.flat xs) (by rw [flat8, hszn, hlen]; omega) holds ad m d (u8E.flat ys) (by rw [flat8, hl2, hszn]; omega) cells_ys (by omega) (by omega) (by rw [hby]; exact growslice_fits (by omega) (by omega))
      obtain ⟨σ', hw, hn, hrn, hrow⟩ := grown c (by omega)
      exact ⟨σ', _, _, by rw [hw]; exact hr, hn, hrn, hrow⟩
instance (priority := low) Step.append_g {x y : Operand} [h : Ev f x (.slice A n c)] [g : Ev f y (.slice B m d)] [r : RowG σ A n c e xs] [pm : PosN m] [ut : U P t (.slice e)] [eo : ElemOf P e u8E 1] [s : Rd σ B m d u8E ys] [ze : ZeroE P e u8E 0] :
    Step P (.call { callee := .builtin .append, args := #[x, y], argTypes := #[t, t] }) ty f σ
      (fun K _ => (n + m ≤ 140737488355328) ∧ ∀ (σ' : St) (A' : Option Addr) (c' : Nat), Nx σ σ' (.row A e) → RowNew σ A A' → RowG σ' A' (n + m) c' e (xs ++ ys) → K (.slice A' (n + m) c') σ') := ⟨fun K E' hK => by
  obtain ⟨hb, hK⟩ := hK
  obtain ⟨σ', A', c', hrun, hn, hrn, hrow⟩ := append_rowG (ty := ty) r s ut eo ze pm.pos hb
  have hr : (execOp (evo f) ⟨none, .call { callee := .builtin .append, args := #[x, y], argTypes := #[t, t] }, ty, "", #[], none⟩).run P σ.w = .ok (.value (.slice A' (n + m) c')) σ'.w := by
    simp [execOp, resolve, h.eq, g.eq, invoke, builtin, hrun]
  unfold OpW; rw [hr]
  exact ⟨σ', rfl, hK σ' A' c' ⟨hn⟩ hrn hrow⟩⟩
instance Step.conv_string {src dst : TypeId} {x : Operand} {v : Value} {s : Bs} [h : Ev f x v] [s1 : StrV v s] [us : U P src .string] [ud : U P dst (.slice e)] [ue : U P e (.int .u8)] :
    Step P (.convert src dst x) ty f σ (fun K _ => (s.length ≤ 140737488355328) ∧ ∀ (σ' : St) (A' : Option Addr) (c' : Nat), Nx σ σ' .no → RowNew σ none A' → RowG σ' A' s.length c' e s → K (.slice A' s.length c') σ') := ⟨fun K E' hK => by
  obtain ⟨hb, hK⟩ := hK
  have e1 := s1.eq; subst e1
  have hr := Lib.run_convert_string_bytes (P := P) σ.w src dst e ⟨s.toArray⟩ us.h ud.h ue.h
  have hsz : (⟨s.toArray⟩ : ByteArray).size = s.length := by simp [ByteArray.size]
  rw [hsz] at hr
  have hrun : (execOp (evo f) ⟨none, .convert src dst x, ty, "", #[], none⟩).run P σ.w = .ok (.value (.slice (some ⟨σ.w.heap.size, 0, none⟩) s.length (grownCap σ.w s.length 0 e))) (Lib.bytesWorld σ.w e ⟨s.toArray⟩) := by
    simp [execOp, h.eq, hr]
  have hge := grownCap_ge σ.w s.length 0 e
  have hcm : grownCap σ.w s.length 0 e ≤ maxLen := grownCap_le_maxLen σ.w s.length 0 e (by simp only [maxLen]; omega)
  have hcs : Lib.bytesCells σ.w e ⟨s.toArray⟩ = (u8E.flat (s ++ List.replicate (grownCap σ.w s.length 0 e - s.length) 0)).toArray := by
    unfold Lib.bytesCells
    rw [hsz, Elem.flat_append]
    apply Array.ext'
    have h1 : (s.toArray.map fun b => Value.int .u8 (b.toNat : Int)).toList = u8E.flat s := by
      have := strCells_flat s
      rw [← this]; simp [Lib.strCells]
    have h2 : ∀ k, List.replicate k (Value.int .u8 0) = u8E.flat (List.replicate k 0) := by
      intro k
      induction k with
      | zero => rfl
      | succ k ih => rw [List.replicate_succ, List.replicate_succ, Elem.flat_cons, ih]; rfl
    simp only [Array.toList_append, Array.toList_replicate]
    rw [h1, h2]
  have hosz := Lib.bytesWorld_size σ.w e ⟨s.toArray⟩
  have hnew := Lib.bytesWorld_at_new σ.w e ⟨s.toArray⟩
  have hfzz : (Lib.bytesCells σ.w e ⟨s.toArray⟩).size = grownCap σ.w s.length 0 e := by rw [hcs]; simp only [List.size_toArray, flat8]; simp; omega
  unfold OpW; rw [hrun]
  refine ⟨⟨Lib.bytesWorld σ.w e ⟨s.toArray⟩, fun k => σ.M k ∨ k = σ.w.heap.size, fun k hk => by rw [hosz]; rcases hk with hk | hk; have := σ.wf k hk; omega; omega⟩, rfl, hK _ _ _ ⟨?_⟩ ⟨fun a' ha' => ?_⟩ ⟨rfl, hge, hcm, .inr ⟨σ.w.heap.size, _, _, rfl, by rw [← hcs]; exact hnew, .inr (by rw [hfzz]; exact Nat.le_refl _), by simp; omega, by simp⟩, fun a ha => ?_⟩⟩
  · have hos : (Lib.bytesWorld σ.w e ⟨s.toArray⟩).os = σ.w.os ∧ (Lib.bytesWorld σ.w e ⟨s.toArray⟩).tape = σ.w.tape ∧ (Lib.bytesWorld σ.w e ⟨s.toArray⟩).output = σ.w.output := by
      unfold Lib.bytesWorld World.freeze; split <;> exact ⟨rfl, rfl, rfl⟩
    exact ⟨hos.1, hos.2.1, hos.2.2, by rw [hosz]; omega, fun k hk _ => Lib.bytesWorld_at_old _ _ _ k hk, fun k hk hm => by rcases hm with h | h; exact h; omega, fun k hk _ => ⟨Lib.bytesWorld_at_old _ _ _ k hk, fun h => .inl h⟩, trivial⟩
  · injection ha' with ha'; subst ha'; exact .inr (Nat.le_refl _)
  · injection ha with ha; subst ha; exact .inr rfl⟩
end
end Go.Proofs.Ytchdbmnikaacdaa

/- The reference's hash: rot, Pad, Words, K, by contract.  -/
set_option linter.all false
set_option maxHeartbeats 40000000
set_option synthInstance.maxHeartbeats 2000000
set_option synthInstance.maxSize 100000
set_option maxRecDepth 100000
namespace Go.Proofs.Ytchdbmnikaacdaa
open Go Go.RowKit
def rotN (x : UInt32) (n : Nat) : UInt32 := shrN x n ||| shlN x (32 - n)
def wordAt (s : Bs) (i : Nat) : UInt32 := ((shlN (s[i]!).toUInt32 24 ||| shlN (s[i + 1]!).toUInt32 16) ||| shlN (s[i + 2]!).toUInt32 8) ||| (s[i + 3]!).toUInt32
def wordsB (s : Bs) : List UInt32 := (List.range (s.length / 4)).map fun k => wordAt s (4 * k)
theorem wordsB_len (s : Bs) : (wordsB s).length = s.length / 4 := by simp [wordsB]
def beB (n : Nat) : Bs := (List.range 8).map fun k => byteN n (7 - k)
def padZ (n : Nat) : Nat := (119 - n % 64) % 64
def padB (s : Bs) : Bs := s ++ [UInt8.ofNat 128] ++ List.replicate (padZ s.length) (UInt8.ofNat 0) ++ beB (s.length * 8)
theorem padB_len (s : Bs) : (padB s).length = s.length + 9 + padZ s.length := by simp [padB, beB]; omega
theorem padB_64 (s : Bs) : (padB s).length % 64 = 0 := by rw [padB_len]; unfold padZ; omega
section
variable {σ : St} {A : Option Addr} {n c : Nat} {a j : Int} {u : UInt32} {s : Bs} {v : Value}
instance rule_rot [p : U32 a u] [q : ToNat j n] : CallRule Try.prog 30 [.int .u32 a, .int .i64 j] σ (fun K _ => (n ≤ 32) ∧ ∀ σ', Nx σ σ' .no → K (.int .u32 ((rotN u n).toNat : Int)) σ') := ⟨fun K E hK => by
  obtain ⟨hn, hK⟩ := hK
  have e1 := p.eq; have e2 := q.eq
  subst e1; subst e2
  haveI : LeN n 32 := ⟨hn⟩
  haveI : Fits .i64 (32 - (n : Int)) := Fits.i64 (by omega) (by omega)
  refine calls_enter Try.func30 rfl _ Try.ntmps30 rfl ?_
  (repeat (first | refine go ?_ | refine goR ?_ | refine goS (fun yc hyc => ?_) | refine goL (fun _ _ => inferInstance) ?_ | with_reducible intro _ | refine goO (by first | omega | (simp only [List.length_cons, List.length_nil]; omega)) ?_ | fail))
  refine WC.draw [] (.p 0 (.p 1 (.p 2 (.p 3 (.p 4 (.p 5 (.p 6 (.p 7 (.p 8 .nil))))))))) mixed (by decide +kernel) ?_
  (repeat (first | refine go ?_ | refine goR ?_ | refine goS (fun yc hyc => ?_) | refine goL (fun _ _ => inferInstance) ?_ | with_reducible intro _ | refine goO (by first | omega | (simp only [List.length_cons, List.length_nil]; omega)) ?_ | fail))
  exact backN (σ0 := σ) Try.results30 (fun σ' _ _ => hK σ' inferInstance)⟩
instance rule_ref_Pad [sv_ : StrV v s] : CallRule Try.prog 25 [v] σ (fun K _ => (s.length ≤ 100000000) ∧ ∀ σ', Nx σ σ' .no → K (sv (padB s)) σ') := ⟨fun K E hK => by
  obtain ⟨hn, hK⟩ := hK
  have e1 := sv_.eq
  subst e1
  haveI : Fits .u64 (s.length : Int) := Fits.u64 (by omega) (by omega)
  haveI : Fits .u64 ((s.length : Int) * 8) := Fits.u64 (by omega) (by omega)
  refine calls_enter Try.func25 rfl _ Try.ntmps25 rfl ?_
  (repeat (first | refine go ?_ | refine goR ?_ | refine goS (fun yc hyc => ?_) | refine goL (fun _ _ => inferInstance) ?_ | with_reducible intro _ | refine goO (by first | omega | (simp only [List.length_cons, List.length_nil]; omega)) ?_ | fail))
  rename Option Addr => A1
  rename St => s1
  refine WC.loopW 260104 (.row A1 5) (fun (i : Nat) f s2 => i ≤ padZ s.length ∧ ∃ A2 n2 c2, n2 = s.length + 1 + i ∧ At f 3 (.slice A2 n2 c2) ∧ RowG s2 A2 n2 c2 5 (s ++ [UInt8.ofNat 128] ++ List.replicate i (UInt8.ofNat 0)) ∧ RowNew s1 A1 A2) (fun i => padZ s.length - i) 0
    (by
      refine ⟨Nat.zero_le _, A1, s.length + 1, _, rfl, inferInstance, ?_, Gr.rn inferInstance⟩
      simp only [List.replicate_zero, List.append_nil]; infer_instance) ?_
  rintro i f s2 ha hs ⟨hi, A2, n2, c2, hn2, a3, hr, hrn⟩
  have hz : padZ s.length = (119 - s.length % 64) % 64 := rfl
  by_cases hlt : i < padZ s.length
  · haveI : BV (decide (((n2 % 64 : Nat) : Int) = 56)) false := ⟨decide_eq_false (by rw [hn2]; omega)⟩
    (repeat (first | refine go ?_ | refine goR ?_ | refine goS (fun yc hyc => ?_) | refine goL (fun _ _ => inferInstance) ?_ | with_reducible intro _ | refine goO (by first | omega | (simp only [List.length_cons, List.length_nil]; omega)) ?_ | fail))
    refine loop_w (i + 1) ⟨hlt, _, _, _, by rw [hn2, Nat.add_assoc], inferInstance, by rw [List.replicate_succ', ← List.append_assoc]; infer_instance, Gr.rn inferInstance⟩ (by omega)
  · haveI : BV (decide (((n2 % 64 : Nat) : Int) = 56)) true := ⟨decide_eq_true (by rw [hn2]; omega)⟩
    have e : i = padZ s.length := by omega
    subst e
    (repeat (first | refine go ?_ | refine goR ?_ | refine goS (fun yc hyc => ?_) | refine goL (fun _ _ => inferInstance) ?_ | with_reducible intro _ | refine goO (by first | omega | (simp only [List.length_cons, List.length_nil]; omega)) ?_ | fail))
    rename St => s3
    refine WC.loopW 17175674920 (.row A2 5) (fun (k : Nat) f s4 => At f 5 (.int .i64 (7 - (k : Int))) ∧ k ≤ 8 ∧ ∃ A3 n3 c3, n3 = n2 + k ∧ At f 3 (.slice A3 n3 c3) ∧ RowG s4 A3 n3 c3 5 (s ++ [UInt8.ofNat 128] ++ List.replicate (padZ s.length) (UInt8.ofNat 0) ++ (beB (s.length * 8)).take k) ∧ RowNew s3 A2 A3) (fun k => 8 - k) 0
      ⟨At.to (.int .i64 7) rfl, Nat.zero_le _, _, _, _, rfl, inferInstance, by rw [List.take_zero, List.append_nil]; infer_instance, Gr.rn inferInstance⟩ ?_
    rintro k f4 s4 ha4 hs4 ⟨a5, hk, A3, n3, c3, hn3, a3', hr3, hrn3⟩
    by_cases hlt2 : k < 8
    · haveI : BV (decide ((7 - (k : Int)) ≥ 0)) true := ⟨decide_eq_true (by omega)⟩
      haveI : LeN k 7 := ⟨by omega⟩
      haveI : Fits .i64 (8 * (7 - (k : Int))) := Fits.i64 (by omega) (by omega)
      haveI : Fits .i64 ((7 - (k : Int)) - 1) := Fits.i64 (by omega) (by omega)
      have hst : (beB (s.length * 8)).take (k + 1) = (beB (s.length * 8)).take k ++ [byteN (s.length * 8) (7 - k)] := by
        rw [take_snoc (by simp [beB]; omega), getElem!_pos _ k (by simp [beB]; omega)]
        simp [beB]
      (repeat (first | refine go ?_ | refine goR ?_ | refine goS (fun yc hyc => ?_) | refine goL (fun _ _ => inferInstance) ?_ | with_reducible intro _ | refine goO (by first | omega | (simp only [List.length_cons, List.length_nil]; omega)) ?_ | fail))
      refine loop_w (k + 1) ⟨At.to (.int .i64 ((7 - (k : Int)) - 1)) (by congr 1; simp; omega), hlt2, _, _, _, by rw [hn3, Nat.add_assoc], inferInstance, by rw [hst, ← List.append_assoc]; infer_instance, Gr.rn inferInstance⟩ (by omega)
    · haveI : BV (decide ((7 - (k : Int)) ≥ 0)) false := ⟨decide_eq_false (by omega)⟩
      rw [take_all (by simp [beB]; omega)] at hr3
      (repeat (first | refine go ?_ | refine goR ?_ | refine goS (fun yc hyc => ?_) | refine goL (fun _ _ => inferInstance) ?_ | with_reducible intro _ | refine goO (by first | omega | (simp only [List.length_cons, List.length_nil]; omega)) ?_ | fail))
      exact backN (σ0 := σ) Try.results25 (fun σ' _ _ => hK σ' inferInstance)⟩
instance rule_ref_Words [sv_ : StrV v s] : CallRule Try.prog 29 [v] σ (fun K _ => (s.length ≤ 100000000) ∧ ∀ σ' A' n' c', n' = s.length / 4 → Nx σ σ' .no → RowNew σ none A' → Row σ' A' n' c' 22 u32E (wordsB s) → K (.slice A' n' c') σ') := ⟨fun K E hK => by
  obtain ⟨hn, hK⟩ := hK
  have e1 := sv_.eq
  subst e1
  have hwl := wordsB_len s
  refine calls_enter Try.func29 rfl _ Try.ntmps29 rfl ?_
  (repeat (first | refine go ?_ | refine goR ?_ | refine goS (fun yc hyc => ?_) | refine goL (fun _ _ => inferInstance) ?_ | with_reducible intro _ | refine goO (by first | omega | (simp only [List.length_cons, List.length_nil]; omega)) ?_ | fail))
  rename Option Addr => A0
  rename St => s0
  refine WC.loopW 2199023255512 (.row A0 22) (fun (i : Nat) f s2 => At f 4 (.int .i64 ((4 * i : Nat) : Int)) ∧ i ≤ s.length / 4 ∧ ∃ A1 c1, At f 3 (.slice A1 i c1) ∧ Row s2 A1 i c1 22 u32E ((wordsB s).take i) ∧ RowNew s0 A0 A1) (fun i => s.length / 4 - i) 0
    ⟨At.to (.int .i64 0) rfl, Nat.zero_le _, _, _, inferInstance, by rw [List.take_zero]; infer_instance, Gr.rn inferInstance⟩ ?_
  rintro i f s2 ha hs ⟨a4, hi, A1, c1, a3, hr, hrn⟩
  haveI : Fits .i64 (((4 * i : Nat) : Int) + 4) := Fits.i64 (by omega) (by omega)
  by_cases hlt : i < s.length / 4
  · haveI : BV (decide ((((4 * i : Nat) : Int) + 4) ≤ (s.length : Int))) true := ⟨decide_eq_true (by omega)⟩
    haveI : Fits .i64 (((4 * i : Nat) : Int) + 1) := Fits.i64 (by omega) (by omega)
    haveI : Fits .i64 (((4 * i : Nat) : Int) + 2) := Fits.i64 (by omega) (by omega)
    haveI : Fits .i64 (((4 * i : Nat) : Int) + 3) := Fits.i64 (by omega) (by omega)
    haveI : IdxLt (4 * i) s.length := ⟨by omega⟩
    haveI : IdxLt (4 * i + 1) s.length := ⟨by omega⟩
    haveI : IdxLt (4 * i + 2) s.length := ⟨by omega⟩
    haveI : IdxLt (4 * i + 3) s.length := ⟨by omega⟩
    have hst : (wordsB s).take (i + 1) = (wordsB s).take i ++ [wordAt s (4 * i)] := by
      rw [take_snoc (by omega), getElem!_pos _ i (by omega)]
      simp [wordsB]
    (repeat (first | refine go ?_ | refine goR ?_ | refine goS (fun yc hyc => ?_) | refine goL (fun _ _ => inferInstance) ?_ | with_reducible intro _ | refine goO (by first | omega | (simp only [List.length_cons, List.length_nil]; omega)) ?_ | fail))
    refine WC.draw [27] (.p 0 (.p 1 (.p 2 (.p 3 (.p 4 (.p 5 (.p 6 (.p 7 (.p 8 (.p 9 (.p 10 (.p 11 (.p 12 (.p 13 (.p 14 (.p 15 (.p 16 (.p 17 (.p 18 (.p 19 (.p 20 (.p 21 (.p 22 (.p 23 (.p 24 (.p 25 (.h 26 (.h 27 (.p 28 .nil))))))))))))))))))))))))))))) mixed (by decide +kernel) ?_
    (repeat' (first | refine go ?_ | refine goR ?_ | refine goS (fun yc hyc => ?_) | refine goL (fun _ _ => inferInstance) ?_ | refine goF ?_ ?_ | refine goG ?_ ?_ ?_ | with_reducible intro _ | refine goO (by first | omega | (simp only [List.length_cons, List.length_nil]; omega)) ?_ | fail))
    all_goals exact loop_w (i + 1) ⟨At.to (.int .i64 (((4 * i : Nat) : Int) + 4)) (by congr 1), hlt, _, _, inferInstance, by rw [hst]; infer_instance, Gr.rn inferInstance⟩ (by omega)
  · haveI : BV (decide ((((4 * i : Nat) : Int) + 4) ≤ (s.length : Int))) false := ⟨decide_eq_false (by omega)⟩
    rw [take_all (by omega)] at hr
    (repeat (first | refine go ?_ | refine goR ?_ | refine goS (fun yc hyc => ?_) | refine goL (fun _ _ => inferInstance) ?_ | with_reducible intro _ | refine goO (by first | omega | (simp only [List.length_cons, List.length_nil]; omega)) ?_ | fail))
    exact resN Try.results29 (hK _ _ _ _ (by omega) (Sx.nx inferInstance) (Gr.rn inferInstance) inferInstance)⟩
end
end Go.Proofs.Ytchdbmnikaacdaa

/- The reference's hash: K, block, Sum, Bytes, Double, Pair, by contract.  -/
set_option linter.all false
set_option maxHeartbeats 40000000
set_option synthInstance.maxHeartbeats 2000000
set_option synthInstance.maxSize 100000
set_option maxRecDepth 100000
namespace Go.Proofs.Ytchdbmnikaacdaa
open Go Go.RowKit
def kB : List UInt32 := [UInt32.ofNat 1116352408, UInt32.ofNat 1899447441, UInt32.ofNat 3049323471, UInt32.ofNat 3921009573, UInt32.ofNat 961987163, UInt32.ofNat 1508970993, UInt32.ofNat 2453635748, UInt32.ofNat 2870763221, UInt32.ofNat 3624381080, UInt32.ofNat 310598401, UInt32.ofNat 607225278, UInt32.ofNat 1426881987, UInt32.ofNat 1925078388, UInt32.ofNat 2162078206, UInt32.ofNat 2614888103, UInt32.ofNat 3248222580, UInt32.ofNat 3835390401, UInt32.ofNat 4022224774, UInt32.ofNat 264347078, UInt32.ofNat 604807628, UInt32.ofNat 770255983, UInt32.ofNat 1249150122, UInt32.ofNat 1555081692, UInt32.ofNat 1996064986, UInt32.ofNat 2554220882, UInt32.ofNat 2821834349, UInt32.ofNat 2952996808, UInt32.ofNat 3210313671, UInt32.ofNat 3336571891, UInt32.ofNat 3584528711, UInt32.ofNat 113926993, UInt32.ofNat 338241895, UInt32.ofNat 666307205, UInt32.ofNat 773529912, UInt32.ofNat 1294757372, UInt32.ofNat 1396182291, UInt32.ofNat 1695183700, UInt32.ofNat 1986661051, UInt32.ofNat 2177026350, UInt32.ofNat 2456956037, UInt32.ofNat 2730485921, UInt32.ofNat 2820302411, UInt32.ofNat 3259730800, UInt32.ofNat 3345764771, UInt32.ofNat 3516065817, UInt32.ofNat 3600352804, UInt32.ofNat 4094571909, UInt32.ofNat 275423344, UInt32.ofNat 430227734, UInt32.ofNat 506948616, UInt32.ofNat 659060556, UInt32.ofNat 883997877, UInt32.ofNat 958139571, UInt32.ofNat 1322822218, UInt32.ofNat 1537002063, UInt32.ofNat 1747873779, UInt32.ofNat 1955562222, UInt32.ofNat 2024104815, UInt32.ofNat 2227730452, UInt32.ofNat 2361852424, UInt32.ofNat 2428436474, UInt32.ofNat 2756734187, UInt32.ofNat 3204031479, UInt32.ofNat 3329325298]
def hB : List UInt32 := [UInt32.ofNat 1779033703, UInt32.ofNat 3144134277, UInt32.ofNat 1013904242, UInt32.ofNat 2773480762, UInt32.ofNat 1359893119, UInt32.ofNat 2600822924, UInt32.ofNat 528734635, UInt32.ofNat 1541459225]
def sig0 (x : UInt32) : UInt32 := (rotN x 7 ^^^ rotN x 18) ^^^ shrN x 3
def sig1 (x : UInt32) : UInt32 := (rotN x 17 ^^^ rotN x 19) ^^^ shrN x 10
/-- the schedule, so many words behind the first ones -/
def schedB (w0 : List UInt32) : Nat → List UInt32
  | 0 => w0
  | i + 1 => schedB w0 i ++ [(((schedB w0 i)[i + 16 - 16]! + sig0 ((schedB w0 i)[i + 16 - 15]!)) + (schedB w0 i)[i + 16 - 7]!) + sig1 ((schedB w0 i)[i + 16 - 2]!)]
theorem schedB_len (w0 : List UInt32) (i : Nat) : (schedB w0 i).length = w0.length + i := by
  induction i with
  | zero => rfl
  | succ i ih => simp [schedB, ih]; omega
def tB (w : List UInt32) (v : List UInt32) (i : Nat) : UInt32 := (((v[7]! + ((rotN v[4]! 6 ^^^ rotN v[4]! 11) ^^^ rotN v[4]! 25)) + ((v[4]! &&& v[5]!) ^^^ (~~~v[4]! &&& v[6]!))) + kB[i]!) + w[i]!
def uB (v : List UInt32) : UInt32 := ((rotN v[0]! 2 ^^^ rotN v[0]! 13) ^^^ rotN v[0]! 22) + (((v[0]! &&& v[1]!) ^^^ (v[0]! &&& v[2]!)) ^^^ (v[1]! &&& v[2]!))
def roundB (w : List UInt32) (v : List UInt32) (i : Nat) : List UInt32 := [tB w v i + uB v, v[0]!, v[1]!, v[2]!, v[3]! + tB w v i, v[4]!, v[5]!, v[6]!]
def roundsB (w : List UInt32) (h : List UInt32) : Nat → List UInt32
  | 0 => h
  | i + 1 => roundB w (roundsB w h i) i
def addB (h v : List UInt32) : List UInt32 := (List.range 8).map fun i => h[i]! + v[i]!
def blockB (h : List UInt32) (s : Bs) : List UInt32 := addB h (roundsB (schedB (wordsB s) 48) h 64)
theorem roundsB_len (w h : List UInt32) (i : Nat) (hh : h.length = 8) : (roundsB w h i).length = 8 := by
  cases i with
  | zero => exact hh
  | succ i => rfl
theorem addB_len (h v : List UInt32) : (addB h v).length = 8 := by simp [addB]
theorem add_step {h v : List UInt32} (hl : h.length = 8) {i : Nat} (hi : i < 8) : ((addB h v).take i ++ h.drop i).set i (((addB h v).take i ++ h.drop i)[i]! + v[i]!) = (addB h v).take (i + 1) ++ h.drop (i + 1) := by
  have hal := addB_len h v
  have e1 : ((addB h v).take i ++ h.drop i)[i]! = h[i]! := by
    rw [getElem!_pos _ i (by simp [hal]; omega), getElem!_pos h i (by omega), List.getElem_append_right (by simp [hal]; omega)]
    simp [hal, Nat.min_eq_left (Nat.le_of_lt hi)]
  rw [e1]
  have e2 : (addB h v)[i]'(by omega) = h[i]! + v[i]! := by simp [addB]
  have hd : h.drop i = h[i]! :: h.drop (i + 1) := by rw [getElem!_pos h i (by omega)]; exact List.drop_eq_getElem_cons (by omega)
  rw [List.take_succ_eq_append_getElem (by omega), e2, hd, List.set_append_right _ _ (by simp [hal]; omega)]
  simp [hal, Nat.min_eq_left (Nat.le_of_lt hi)]
theorem blockB_len (h : List UInt32) (s : Bs) : (blockB h s).length = 8 := addB_len _ _
/-- the state behind so many blocks of 64 bytes -/
def blocksB (h : List UInt32) (p : Bs) : Nat → List UInt32
  | 0 => h
  | i + 1 => blockB (blocksB h p i) ((p.drop (64 * i)).take 64)
theorem blocksB_len {h : List UInt32} (hh : h.length = 8) (p : Bs) (i : Nat) : (blocksB h p i).length = 8 := by
  cases i with
  | zero => exact hh
  | succ i => exact blockB_len _ _
def outB (h : List UInt32) : Key := Vector.ofFn fun i : Fin 32 => UInt8.ofNat (shrN (h[i.val / 4]!) (24 - 8 * (i.val % 4))).toNat
def sumB (s : Bs) : Key := outB (blocksB hB (padB s) ((padB s).length / 64))
def doubleB (s : Bs) : Key := sumB (sumB s).toList
def pairB (a b : Key) : Key := doubleB (a.toList ++ b.toList)
instance LenU.rep {n : Nat} {x : UInt32} : LenU (List.replicate n x) n := ⟨by simp⟩
instance tz_8 : TZ Try.prog 60 (aw (List.replicate 8 0)) := TZ.mk_ (by kernel_rfl)
instance tz_64 : TZ Try.prog 64 (aw (List.replicate 64 0)) := TZ.mk_ (by kernel_rfl)
instance LenU.nil : LenU [] 0 := ⟨rfl⟩
instance LenU.cons {l : List UInt32} {x : UInt32} {n : Nat} [h : LenU l n] : LenU (x :: l) (n + 1) := ⟨by rw [List.length_cons, h.eq]⟩
instance LenU.kB_ : LenU kB 64 := ⟨rfl⟩
instance LenU.hB_ : LenU hB 8 := ⟨rfl⟩
instance LenU.bB {h : List UInt32} {s : Bs} : LenU (blockB h s) 8 := ⟨blockB_len _ _⟩
section
variable {A : Option Addr} {n c : Nat} {a j : Int} {u : UInt32} {s : Bs} {v : Value} {σ : St} {h : List UInt32} {k k2 : Key}
instance rule_ref_K : CallRule Try.prog 28 [] σ (fun K _ => ∀ σ', Nx σ σ' .no → K (.agg (aw kB)) σ') := ⟨fun K E hK => by
  refine calls_enter Try.func28 rfl _ Try.ntmps28 rfl ?_
  (repeat (first | refine go ?_ | refine goR ?_ | refine goS (fun yc hyc => ?_) | refine goL (fun _ _ => inferInstance) ?_ | with_reducible intro _ | refine goO (by first | omega | (simp only [List.length_cons, List.length_nil]; omega)) ?_ | fail))
  exact backN (σ0 := σ) Try.results28 (fun σ' _ _ => hK σ' inferInstance)⟩
instance rule_ref_block [sv_ : StrV v s] [lh : LenU h 8] : CallRule Try.prog 26 [.agg (aw h), v] σ (fun K _ => (s.length = 64) ∧ ∀ σ', Nx σ σ' .no → K (.agg (aw (blockB h s))) σ') := ⟨fun K E hK => by
  obtain ⟨hn, hK⟩ := hK
  have hl8 := lh.eq
  have e1 := sv_.eq
  subst e1
  have hwl : (wordsB s).length = 16 := by rw [wordsB_len]; omega
  have hn4 : s.length / 4 = 16 := by omega
  refine calls_enter Try.func26 rfl _ Try.ntmps26 rfl ?_
  (repeat (first | refine go ?_ | refine goR ?_ | refine goS (fun yc hyc => ?_) | refine goL (fun _ _ => inferInstance) ?_ | with_reducible intro _ | refine goO (by first | omega | (simp only [List.length_cons, List.length_nil]; omega)) ?_ | fail))
  obtain ⟨b2, rfl⟩ := Own.ex (‹Own _ _ 60 (aw h)›)
  obtain rfl : _ = 16 := (‹_ = s.length / 4›).trans hn4
  rename Option Addr => A0
  rename St => s0
  refine WC.loopW 1180591620717407113152 (.row A0 22) (fun (i : Nat) f s2 => At f 7 (.int .i64 ((i + 16 : Nat) : Int)) ∧ i ≤ 48 ∧ ∃ A1 c1, At f 6 (.slice A1 (i + 16) c1) ∧ Row s2 A1 (i + 16) c1 22 u32E (schedB (wordsB s) i) ∧ RowNew s0 A0 A1) (fun i => 48 - i) 0
    ⟨At.to (.int .i64 16) rfl, Nat.zero_le _, _, _, inferInstance, (by assumption : Row _ _ _ _ _ _ (wordsB s)), Gr.rn inferInstance⟩ ?_
  rintro i f s2 ha hs ⟨a7, hi, A1, c1, a6, hr, hrn⟩
  by_cases hlt : i < 48
  · haveI : BV (decide (((i + 16 : Nat) : Int) < 64)) true := ⟨decide_eq_true (by omega)⟩
    haveI : LeN 16 (i + 16) := ⟨by omega⟩
    haveI : LeN 15 (i + 16) := ⟨by omega⟩
    haveI : LeN 7 (i + 16) := ⟨by omega⟩
    haveI : LeN 2 (i + 16) := ⟨by omega⟩
    haveI : Fits .i64 (((i + 16 : Nat) : Int) - 16) := Fits.i64 (by omega) (by omega)
    haveI : Fits .i64 (((i + 16 : Nat) : Int) - 15) := Fits.i64 (by omega) (by omega)
    haveI : Fits .i64 (((i + 16 : Nat) : Int) - 7) := Fits.i64 (by omega) (by omega)
    haveI : Fits .i64 (((i + 16 : Nat) : Int) - 2) := Fits.i64 (by omega) (by omega)
    haveI : IdxLt (i + 16 - 16) (i + 16) := ⟨by omega⟩
    haveI : IdxLt (i + 16 - 15) (i + 16) := ⟨by omega⟩
    haveI : IdxLt (i + 16 - 7) (i + 16) := ⟨by omega⟩
    haveI : IdxLt (i + 16 - 2) (i + 16) := ⟨by omega⟩
    haveI : Fits .i64 (((i + 16 : Nat) : Int) + 1) := Fits.i64 (by omega) (by omega)
    (repeat (first | refine go ?_ | refine goR ?_ | refine goS (fun yc hyc => ?_) | refine goL (fun _ _ => inferInstance) ?_ | with_reducible intro _ | refine goO (by first | omega | (simp only [List.length_cons, List.length_nil]; omega)) ?_ | fail))
    refine WC.draw [17] (.p 0 (.p 1 (.p 2 (.p 3 (.l 4 (.l 5 (.p 6 (.p 7 (.p 8 (.p 9 (.p 10 (.l 11 (.l 12 (.p 13 (.p 14 (.p 15 (.h 16 (.h 17 (.p 18 .nil))))))))))))))))))) mixed (by decide +kernel) ?_
    (repeat' (first | refine go ?_ | refine goR ?_ | refine goS (fun yc hyc => ?_) | refine goL (fun _ _ => inferInstance) ?_ | refine goF ?_ ?_ | refine goG ?_ ?_ ?_ | with_reducible intro _ | refine goO (by first | omega | (simp only [List.length_cons, List.length_nil]; omega)) ?_ | fail))
    all_goals exact loop_w (i + 1) ⟨At.to (.int .i64 (((i + 16 : Nat) : Int) + 1)) (by congr 1), hlt, _, _, At.to _ (by rw [Nat.add_right_comm]), by rw [Nat.add_right_comm]; show Row _ _ _ _ _ _ (schedB _ i ++ _); infer_instance, Gr.rn inferInstance⟩ (by omega)
  · haveI : BV (decide (((i + 16 : Nat) : Int) < 64)) false := ⟨decide_eq_false (by omega)⟩
    obtain rfl : i = 48 := by omega
    (repeat (first | refine go ?_ | refine goR ?_ | refine goS (fun yc hyc => ?_) | refine goL (fun _ _ => inferInstance) ?_ | with_reducible intro _ | refine goO (by first | omega | (simp only [List.length_cons, List.length_nil]; omega)) ?_ | fail))
    rename Nat => b12
    rename St => s3
    generalize hW : schedB (wordsB s) 48 = W at *
    have hWl : W.length = 64 := by rw [← hW, schedB_len, hwl]
    refine WC.loopW 22835963083295358096932573150008680747301593088 (.one b12 60) (fun (i : Nat) f s4 => At f 13 (.int .i64 (i : Int)) ∧ i ≤ 64 ∧ Own s4 b12 60 (aw (roundsB W h i))) (fun i => 64 - i) 0
      ⟨At.to (.int .i64 0) rfl, Nat.zero_le _, by show Own _ _ _ (aw h); infer_instance⟩ ?_
    rintro i f4 s4 ha4 hs4 ⟨a13, hi4, ho⟩
    by_cases hlt4 : i < 64
    · haveI : BV (decide ((i : Int) < 64)) true := ⟨decide_eq_true (by omega)⟩
      haveI : IdxLt i 64 := ⟨hlt4⟩
      haveI : IdxLt i (48 + 16) := ⟨hlt4⟩
      haveI : Fits .i64 ((i : Int) + 1) := Fits.i64 (by omega) (by omega)
      haveI : LenU (roundsB W h i) 8 := ⟨roundsB_len _ _ _ hl8⟩
      (repeat (first | refine go ?_ | refine goR ?_ | refine goS (fun yc hyc => ?_) | refine goL (fun _ _ => inferInstance) ?_ | with_reducible intro _ | refine goO (by first | omega | (simp only [List.length_cons, List.length_nil]; omega)) ?_ | fail))
      refine WC.cutW 1298074214029243997325309495017472 .no (fun f s => At f 16 (.int .u32 ((tB W (roundsB W h i) i).toNat : Int))) ?_ ?_
      · refine WC.draw [] (.l 0 (.l 1 (.p 2 (.p 4 (.p 7 (.p 11 (.l 12 (.l 13 (.p 14 (.p 15 (.p 16 (.l 17 (.l 18 (.p 19 (.p 20 (.p 22 (.l 23 (.l 24 (.p 26 (.p 27 (.l 28 (.l 29 (.h 3 (.h 5 (.p 6 (.h 8 (.p 9 (.p 10 (.p 21 (.p 25 (.p 30 (.p 31 .nil)))))))))))))))))))))))))))))))) mixed (by decide +kernel) ?_
        (repeat' (first | refine go ?_ | refine goR ?_ | refine goS (fun yc hyc => ?_) | refine goL (fun _ _ => inferInstance) ?_ | refine goF ?_ ?_ | refine goG ?_ ?_ ?_ | with_reducible intro _ | refine goO (by first | omega | (simp only [List.length_cons, List.length_nil]; omega)) ?_ | fail))
        all_goals (refine ⟨rfl, AgreeG.h (self := inferInstance), Sx.nx inferInstance, ?_⟩; unfold tB; infer_instance)
      intro f5 s5 ha5 hs5 a16
      (repeat (first | refine go ?_ | refine goR ?_ | refine goS (fun yc hyc => ?_) | refine goL (fun _ _ => inferInstance) ?_ | with_reducible intro _ | refine goO (by first | omega | (simp only [List.length_cons, List.length_nil]; omega)) ?_ | fail))
      refine WC.cutW 21778070184865847027949067743009083359232 .no (fun f s => At f 17 (.int .u32 ((uB (roundsB W h i)).toNat : Int))) ?_ ?_
      · refine WC.draw [] (.p 0 (.p 2 (.p 5 (.p 8 (.l 9 (.l 10 (.p 11 (.p 12 (.l 13 (.l 14 (.p 15 (.p 16 (.l 17 (.l 18 (.l 19 (.l 20 (.p 21 (.p 22 (.h 1 (.h 3 (.p 4 (.h 6 (.p 7 (.p 23 (.p 24 .nil))))))))))))))))))))))))) mixed (by decide +kernel) ?_
        (repeat' (first | refine go ?_ | refine goR ?_ | refine goS (fun yc hyc => ?_) | refine goL (fun _ _ => inferInstance) ?_ | refine goF ?_ ?_ | refine goG ?_ ?_ ?_ | with_reducible intro _ | refine goO (by first | omega | (simp only [List.length_cons, List.length_nil]; omega)) ?_ | fail))
        all_goals (refine ⟨rfl, AgreeG.h (self := inferInstance), Sx.nx inferInstance, ?_⟩; unfold uB; infer_instance)
      intro f6 s6 ha6 hs6 a17
      (repeat (first | refine go ?_ | refine goR ?_ | refine goS (fun yc hyc => ?_) | refine goL (fun _ _ => inferInstance) ?_ | with_reducible intro _ | refine goO (by first | omega | (simp only [List.length_cons, List.length_nil]; omega)) ?_ | fail))
      refine loop_w (i + 1) ⟨At.to (.int .i64 ((i : Int) + 1)) (by congr 1), hlt4, ?_⟩ (by omega)
      show Own _ _ _ (aw (roundB _ _ _))
      unfold roundB
      infer_instance
    · haveI : BV (decide ((i : Int) < 64)) false := ⟨decide_eq_false (by omega)⟩
      obtain rfl : i = 64 := by omega
      haveI : LenU (roundsB W h 64) 8 := ⟨roundsB_len _ _ _ hl8⟩
      (repeat (first | refine go ?_ | refine goR ?_ | refine goS (fun yc hyc => ?_) | refine goL (fun _ _ => inferInstance) ?_ | with_reducible intro _ | refine goO (by first | omega | (simp only [List.length_cons, List.length_nil]; omega)) ?_ | fail))
      rename St => s7
      generalize hV : roundsB W h 64 = V at *
      have hVl : V.length = 8 := by rw [← hV]; exact roundsB_len _ _ _ hl8
      refine WC.loopW 187049373615272278171974726012173034593777241817088 (.one b2 60) (fun (i : Nat) f s4 => At f 18 (.int .i64 (i : Int)) ∧ i ≤ 8 ∧ Own s4 b2 60 (aw ((addB h V).take i ++ h.drop i))) (fun i => 8 - i) 0
        ⟨At.to (.int .i64 0) rfl, Nat.zero_le _, by show Own _ _ _ (aw h); infer_instance⟩ ?_
      rintro i f8 s8 ha8 hs8 ⟨a18, hi8, ho8⟩
      haveI : LenU V 8 := ⟨hVl⟩
      haveI : LenU ((addB h V).take i ++ h.drop i) 8 := ⟨by simp [addB_len, hl8]; omega⟩
      by_cases hlt8 : i < 8
      · haveI : BV (decide ((i : Int) < 8)) true := ⟨decide_eq_true (by omega)⟩
        haveI : IdxLt i 8 := ⟨hlt8⟩
        haveI : Fits .i64 ((i : Int) + 1) := Fits.i64 (by omega) (by omega)
        have hst : ((addB h V).take i ++ h.drop i).set i (((addB h V).take i ++ h.drop i)[i]! + V[i]!) = (addB h V).take (i + 1) ++ h.drop (i + 1) := add_step hl8 hlt8
        (repeat (first | refine go ?_ | refine goR ?_ | refine goS (fun yc hyc => ?_) | refine goL (fun _ _ => inferInstance) ?_ | with_reducible intro _ | refine goO (by first | omega | (simp only [List.length_cons, List.length_nil]; omega)) ?_ | fail))
        refine WC.draw [9] (.p 0 (.p 1 (.l 2 (.l 3 (.p 4 (.l 5 (.l 6 (.p 7 (.l 8 (.h 9 .nil)))))))))) mixed (by decide +kernel) ?_
        (repeat' (first | refine go ?_ | refine goR ?_ | refine goS (fun yc hyc => ?_) | refine goL (fun _ _ => inferInstance) ?_ | refine goF ?_ ?_ | refine goG ?_ ?_ ?_ | with_reducible intro _ | refine goO (by first | omega | (simp only [List.length_cons, List.length_nil]; omega)) ?_ | fail))
        all_goals exact loop_w (i + 1) ⟨At.to (.int .i64 ((i : Int) + 1)) (by congr 1), hlt8, by rw [← hst]; infer_instance⟩ (by omega)
      · haveI : BV (decide ((i : Int) < 8)) false := ⟨decide_eq_false (by omega)⟩
        obtain rfl : i = 8 := by omega
        have hst : (addB h V).take 8 ++ h.drop 8 = blockB h s := by
          rw [List.take_of_length_le (by rw [addB_len]; omega), List.drop_of_length_le (by omega), List.append_nil]
          unfold blockB
          rw [hW, hV]
        rw [hst] at ho8
        (repeat (first | refine go ?_ | refine goR ?_ | refine goS (fun yc hyc => ?_) | refine goL (fun _ _ => inferInstance) ?_ | with_reducible intro _ | refine goO (by first | omega | (simp only [List.length_cons, List.length_nil]; omega)) ?_ | fail))
        exact backN (σ0 := σ) Try.results26 (fun σ' _ _ => hK σ' inferInstance)⟩
instance rule_ref_Sum1 [sv_ : StrV v s] : CallRule Try.prog 21 [v] σ (fun K _ => (s.length ≤ 100000000) ∧ ∀ σ', Nx σ σ' .no → K (.agg (kc (sumB s))) σ') := ⟨fun K E hK => by
  obtain ⟨hn, hK⟩ := hK
  have e1 := sv_.eq
  subst e1
  have h64 := padB_64 s
  have hpl := padB_len s
  have hpz : padZ s.length < 64 := by unfold padZ; omega
  refine calls_enter Try.func21 rfl _ Try.ntmps21 rfl ?_
  (repeat (first | refine go ?_ | refine goR ?_ | refine goS (fun yc hyc => ?_) | refine goL (fun _ _ => inferInstance) ?_ | with_reducible intro _ | refine goO (by first | omega | (simp only [List.length_cons, List.length_nil]; omega)) ?_ | fail))
  rename St => s0
  generalize hP : padB s = P at *
  obtain ⟨b3, rfl⟩ := Own.ex (‹Own _ _ 60 _›)
  refine WC.loopW 33552416 (.one b3 60) (fun (i : Nat) f s4 => At f 5 (.int .i64 ((64 * i : Nat) : Int)) ∧ i ≤ P.length / 64 ∧ Own s4 b3 60 (aw (blocksB hB P i))) (fun i => P.length / 64 - i) 0
    ⟨At.to (.int .i64 0) rfl, Nat.zero_le _, by show Own _ _ _ (aw hB); unfold hB; infer_instance⟩ ?_
  rintro i f s4 ha hs ⟨a5, hi, ho⟩
  haveI : Fits .i64 (((64 * i : Nat) : Int) + 64) := Fits.i64 (by omega) (by omega)
  haveI : LenU (blocksB hB P i) 8 := ⟨blocksB_len rfl _ _⟩
  by_cases hlt : i < P.length / 64
  · haveI : BV (decide ((((64 * i : Nat) : Int) + 64) ≤ (P.length : Int))) true := ⟨decide_eq_true (by omega)⟩
    haveI : LeN (64 * i) (64 * i + 64) := ⟨by omega⟩
    haveI : LeN (64 * i + 64) P.length := ⟨by omega⟩
    have hst : aw (blocksB hB P (i + 1)) = aw (blockB (blocksB hB P i) ((P.drop (64 * i)).take (64 * i + 64 - 64 * i))) := by rw [Nat.add_sub_cancel_left]; rfl
    have hll : ((P.drop (64 * i)).take (64 * i + 64 - 64 * i)).length = 64 := by simp; omega
    (repeat (first | refine go ?_ | refine goR ?_ | refine goS (fun yc hyc => ?_) | refine goL (fun _ _ => inferInstance) ?_ | with_reducible intro _ | refine goO (by first | omega | (simp only [List.length_cons, List.length_nil]; omega)) ?_ | fail))
    refine WC.draw [7] (.l 0 (.p 1 (.p 2 (.p 3 (.p 4 (.l 5 (.h 6 (.h 7 .nil)))))))) mixed (by decide +kernel) ?_
    (repeat' (first | refine go ?_ | refine goR ?_ | refine goS (fun yc hyc => ?_) | refine goL (fun _ _ => inferInstance) ?_ | refine goF ?_ ?_ | refine goG ?_ ?_ ?_ | with_reducible intro _ | refine goO (by first | omega | (simp only [List.length_cons, List.length_nil]; omega)) ?_ | fail))
    all_goals first | exact hll | exact loop_w (i + 1) ⟨At.to (.int .i64 (((64 * i : Nat) : Int) + 64)) (by congr 1), hlt, by rw [hst]; infer_instance⟩ (by omega)
  · haveI : BV (decide ((((64 * i : Nat) : Int) + 64) ≤ (P.length : Int))) false := ⟨decide_eq_false (by omega)⟩
    obtain rfl : i = P.length / 64 := by omega
    (repeat (first | refine go ?_ | refine goR ?_ | refine goS (fun yc hyc => ?_) | refine goL (fun _ _ => inferInstance) ?_ | with_reducible intro _ | refine goO (by first | omega | (simp only [List.length_cons, List.length_nil]; omega)) ?_ | fail))
    rename St => s6
    generalize hH : blocksB hB P (P.length / 64) = H at *
    haveI hHl : LenU H 8 := ‹_›
    obtain ⟨b6, rfl⟩ := Own.ex (‹Own s6 _ 24 _›)
    refine WC.loopW 4397979402368 (.one b6 24) (fun (i : Nat) f s7 => At f 7 (.int .i64 (i : Int)) ∧ i ≤ 32 ∧ ∃ kk : Key, Own s7 b6 24 (kc kk) ∧ ∀ j (h : j < i) (h' : j < 32), kk[j] = (outB H)[j]) (fun i => 32 - i) 0
      ⟨At.to (.int .i64 0) rfl, Nat.zero_le _, key0, inferInstance, nofun⟩ ?_
    rintro i f7 s7 ha7 hs7 ⟨a7, hi7, kk, ho7, hk7⟩
    by_cases hlt7 : i < 32
    · haveI : BV (decide ((i : Int) < 32)) true := ⟨decide_eq_true (by omega)⟩
      haveI : IdxLt i 32 := ⟨hlt7⟩
      haveI : IdxLt (i / 4) 8 := ⟨by omega⟩
      haveI : LeN (8 * (i % 4)) 24 := ⟨by omega⟩
      haveI : Fits .i64 ((i / 4 : Nat) : Int) := Fits.i64 (by omega) (by omega)
      haveI : Fits .i64 ((i % 4 : Nat) : Int) := Fits.i64 (by omega) (by omega)
      haveI : Fits .i64 (8 * ((i % 4 : Nat) : Int)) := Fits.i64 (by omega) (by omega)
      haveI : Fits .i64 (24 - 8 * ((i % 4 : Nat) : Int)) := Fits.i64 (by omega) (by omega)
      haveI : Fits .i64 ((i : Int) + 1) := Fits.i64 (by omega) (by omega)
      (repeat (first | refine go ?_ | refine goR ?_ | refine goS (fun yc hyc => ?_) | refine goL (fun _ _ => inferInstance) ?_ | with_reducible intro _ | refine goO (by first | omega | (simp only [List.length_cons, List.length_nil]; omega)) ?_ | fail))
      refine loop_w (i + 1) ⟨At.to (.int .i64 ((i : Int) + 1)) (by congr 1), hlt7, _, inferInstance, fun j hj hj' => ?_⟩ (by omega)
      unfold setB
      rw [dif_pos hlt7]
      by_cases hji : j = i
      · subst hji; simp [outB]
      · rw [Vector.getElem_set_ne _ _ (by omega)]; exact hk7 j (by omega) hj'
    · haveI : BV (decide ((i : Int) < 32)) false := ⟨decide_eq_false (by omega)⟩
      obtain rfl : i = 32 := by omega
      obtain rfl : kk = sumB s := by
        apply Vector.ext
        intro j hj
        rw [hk7 j hj hj]
        unfold sumB
        rw [hP, hH]
      (repeat (first | refine go ?_ | refine goR ?_ | refine goS (fun yc hyc => ?_) | refine goL (fun _ _ => inferInstance) ?_ | with_reducible intro _ | refine goO (by first | omega | (simp only [List.length_cons, List.length_nil]; omega)) ?_ | fail))
      exact backN (σ0 := σ) Try.results21 (fun σ' _ _ => hK σ' inferInstance)⟩
instance rule_ref_Bytes1 : CallRule Try.prog 22 [.agg (kc k)] σ (fun K _ => ∀ σ', Nx σ σ' .no → K (sv k.toList) σ') := ⟨fun K E hK => by
  have hkl : k.toList.length = 32 := by simp
  refine calls_enter Try.func22 rfl _ Try.ntmps22 rfl ?_
  (repeat (first | refine go ?_ | refine goR ?_ | refine goS (fun yc hyc => ?_) | refine goL (fun _ _ => inferInstance) ?_ | with_reducible intro _ | refine goO (by first | omega | (simp only [List.length_cons, List.length_nil]; omega)) ?_ | fail))
  rename Option Addr => A0
  rename St => s0
  refine WC.loopW 65496 (.row A0 5) (fun (i : Nat) f s => At f 4 (.int .i64 (i : Int)) ∧ i ≤ 32 ∧ ∃ A1 c1, At f 3 (.slice A1 i c1) ∧ Row s A1 i c1 5 u8E (k.toList.take i) ∧ RowNew s0 A0 A1) (fun i => 32 - i) 0
    ⟨At.to (.int .i64 0) rfl, Nat.zero_le _, _, _, inferInstance, by rw [List.take_zero]; infer_instance, Gr.rn inferInstance⟩ ?_
  rintro i f s ha hs ⟨a6, hi, A1, c1, a5, hr, hrn⟩
  by_cases hlt : i < 32
  · haveI : BV (decide ((i : Int) < 32)) true := ⟨by simp; omega⟩
    haveI : IdxLt i 32 := ⟨hlt⟩
    haveI : Fits .i64 ((i : Int) + 1) := Fits.i64 (by omega) (by omega)
    have hst : k.toList.take (i + 1) = k.toList.take i ++ [k[i]!] := by
      rw [take_snoc (by omega), getElem!_pos _ i (by omega), getElem!_pos k i hlt]; simp
    (repeat (first | refine go ?_ | refine goR ?_ | refine goS (fun yc hyc => ?_) | refine goL (fun _ _ => inferInstance) ?_ | with_reducible intro _ | refine goO (by first | omega | (simp only [List.length_cons, List.length_nil]; omega)) ?_ | fail))
    refine loop_w (i + 1) ⟨At.to (.int .i64 ((i : Int) + 1)) (by simp), hlt, _, _, inferInstance, by rw [hst]; infer_instance, Gr.rn inferInstance⟩ (by omega)
  · haveI : BV (decide ((i : Int) < 32)) false := ⟨by simp; omega⟩
    have e : i = 32 := by omega
    subst e
    rw [take_all (by omega)] at hr
    (repeat (first | refine go ?_ | refine goR ?_ | refine goS (fun yc hyc => ?_) | refine goL (fun _ _ => inferInstance) ?_ | with_reducible intro _ | refine goO (by first | omega | (simp only [List.length_cons, List.length_nil]; omega)) ?_ | fail))
    exact backN (σ0 := σ) Try.results22 (fun σ' _ _ => hK σ' inferInstance)⟩
instance rule_ref_Double [sv_ : StrV v s] : CallRule Try.prog 12 [v] σ (fun K _ => (s.length ≤ 100000000) ∧ ∀ σ', Nx σ σ' .no → K (.agg (kc (doubleB s))) σ') := ⟨fun K E hK => by
  obtain ⟨hn, hK⟩ := hK
  have e1 := sv_.eq
  subst e1
  have h32 : (sumB s).toList.length ≤ 100000000 := by simp
  refine calls_enter Try.func12 rfl _ Try.ntmps12 rfl ?_
  (repeat (first | refine go ?_ | refine goR ?_ | refine goS (fun yc hyc => ?_) | refine goL (fun _ _ => inferInstance) ?_ | with_reducible intro _ | refine goO (by first | omega | (simp only [List.length_cons, List.length_nil]; omega)) ?_ | fail))
  exact backN (σ0 := σ) Try.results12 (fun σ' _ _ => hK σ' inferInstance)⟩
end
end Go.Proofs.Ytchdbmnikaacdaa

/- Elements: points, outs, coins, transactions.  -/
set_option linter.all false
set_option maxRecDepth 100000
set_option maxHeartbeats 40000000
set_option synthInstance.maxHeartbeats 2000000
set_option synthInstance.maxSize 100000
namespace Go.Proofs.Ytchdbmnikaacdaa
open Go Go.RowKit
structure Pt where
  tx : Key
  idx : UInt32
  deriving DecidableEq, Inhabited
@[reducible] def ptE : Elem Pt := { sz := 33, agg := true, val := fun x => .agg (cats [kc x.tx, #[.int .u32 (x.idx.toNat : Int)]]), ok := fun s x => True, pos := by omega, size := fun x => (by have h : CSz (cats [kc x.tx, #[.int .u32 (x.idx.toNat : Int)]]) 33 := inferInstance; exact h.size), one := fun x => (by have h : CSz (cats [kc x.tx, #[.int .u32 (x.idx.toNat : Int)]]) 33 := inferInstance; exact h.one), shapeA := fun _ _ => rfl, shape1 := nofun }
instance se_ptE : SmallE ptE := ⟨by decide⟩
instance fv_ptE : FlatV ptE (fun x => .agg (cats [kc x.tx, #[.int .u32 (x.idx.toNat : Int)]])) := ⟨rfl⟩
instance pl_ptE : Plain ptE := ⟨fun _ _ => trivial⟩
instance (priority := high) vo_ptE {x : Pt} : ValOf ptE (.agg (cats [kc x.tx, #[.int .u32 (x.idx.toNat : Int)]])) x := ⟨rfl⟩
instance (priority := low) vp_ptE {a0 : Key} {n1 : Int} {a1 : UInt32} [h1 : U32 n1 a1] : ValOf ptE (.agg (cats [kc a0, #[.int .u32 n1]])) ⟨a0, a1⟩ := ⟨by rw [h1.eq]⟩
abbrev z_ptE : Pt := ⟨key0, 0⟩
instance eo_ptE_43 : ElemOf Try.prog 43 ptE 36 := ⟨inferInstance⟩
instance ze_ptE_43 : ZeroE Try.prog 43 ptE z_ptE := ZeroE.of (show TZ Try.prog 43 _ from tz43) (fun _ => trivial)
instance zv_ptE_43 : ZeroVal Try.prog 43 ptE z_ptE := ⟨zv_of (by kernel_rfl)⟩
instance eqd_ptE_43 : EqD Try.prog 43 ptE 3 := ⟨fun d w a b => by
  show (Op.equalIn (d + 2 + 1) 43 (.agg _) (.agg _)).run Try.prog w = _
  rw [run_equalIn_struct w (d + 2) 43 _ _ (by kernel_rfl) (by kernel_rfl), show (Try.prog.fieldsOf 43).toList = [{ name := "Tx", type := 24, offset := 0, embedded := false, tag := "", pkgPath := "", byteOffset := 0 }, { name := "Index", type := 22, offset := 32, embedded := false, tag := "", pkgPath := "", byteOffset := 32 }] from by kernel_rfl]
  refine ((eqFields_cons (g := { name := "Tx", type := 24, offset := 0, embedded := false, tag := "", pkgPath := "", byteOffset := 0 }) (b := decide (a.tx = b.tx)) (by kernel_rfl) (run_field (inferInstance : TI Try.prog 24 _ _ _) inferInstance w) (run_field (inferInstance : TI Try.prog 24 _ _ _) inferInstance w) (run_equalIn_key (d + 0) w a.tx b.tx) (eqFields_cons (g := { name := "Index", type := 22, offset := 32, embedded := false, tag := "", pkgPath := "", byteOffset := 32 }) (b := decide (a.idx = b.idx)) (by kernel_rfl) (run_field (inferInstance : TI Try.prog 22 _ _ _) inferInstance w) (run_field (inferInstance : TI Try.prog 22 _ _ _) inferInstance w) ((run_equalIn_int w (d + 1) 22 _ _ _ _ tu22.h).trans (by rw [u32_beq])) (eqFields_nil)))).trans ?_
  congr 1; obtain ⟨a0, a1⟩ := a; obtain ⟨b0, b1⟩ := b; simp [Bool.and_assoc, Bool.decide_and], by kernel_rfl⟩
structure Ot where
  val : Int64
  lock : Key
  deriving DecidableEq, Inhabited
@[reducible] def otE : Elem Ot := { sz := 33, agg := true, val := fun x => .agg (cats [#[.int .i64 x.val.toInt], kc x.lock]), ok := fun s x => True, pos := by omega, size := fun x => (by have h : CSz (cats [#[.int .i64 x.val.toInt], kc x.lock]) 33 := inferInstance; exact h.size), one := fun x => (by have h : CSz (cats [#[.int .i64 x.val.toInt], kc x.lock]) 33 := inferInstance; exact h.one), shapeA := fun _ _ => rfl, shape1 := nofun }
instance se_otE : SmallE otE := ⟨by decide⟩
instance fv_otE : FlatV otE (fun x => .agg (cats [#[.int .i64 x.val.toInt], kc x.lock])) := ⟨rfl⟩
instance pl_otE : Plain otE := ⟨fun _ _ => trivial⟩
instance (priority := high) vo_otE {x : Ot} : ValOf otE (.agg (cats [#[.int .i64 x.val.toInt], kc x.lock])) x := ⟨rfl⟩
instance (priority := low) vp_otE {n0 : Int} {a0 : Int64} [h0 : I64 n0 a0] {a1 : Key} : ValOf otE (.agg (cats [#[.int .i64 n0], kc a1])) ⟨a0, a1⟩ := ⟨by rw [h0.eq]⟩
abbrev z_otE : Ot := ⟨0, key0⟩
instance eo_otE_37 : ElemOf Try.prog 37 otE 40 := ⟨inferInstance⟩
instance ze_otE_37 : ZeroE Try.prog 37 otE z_otE := ZeroE.of (show TZ Try.prog 37 _ from tz37) (fun _ => trivial)
instance zv_otE_37 : ZeroVal Try.prog 37 otE z_otE := ⟨zv_of (by kernel_rfl)⟩
instance eqd_otE_37 : EqD Try.prog 37 otE 3 := ⟨fun d w a b => by
  show (Op.equalIn (d + 2 + 1) 37 (.agg _) (.agg _)).run Try.prog w = _
  rw [run_equalIn_struct w (d + 2) 37 _ _ (by kernel_rfl) (by kernel_rfl), show (Try.prog.fieldsOf 37).toList = [{ name := "Value", type := 2, offset := 0, embedded := false, tag := "", pkgPath := "", byteOffset := 0 }, { name := "Lock", type := 24, offset := 1, embedded := false, tag := "", pkgPath := "", byteOffset := 8 }] from by kernel_rfl]
  refine ((eqFields_cons (g := { name := "Value", type := 2, offset := 0, embedded := false, tag := "", pkgPath := "", byteOffset := 0 }) (b := decide (a.val = b.val)) (by kernel_rfl) (run_field (inferInstance : TI Try.prog 2 _ _ _) inferInstance w) (run_field (inferInstance : TI Try.prog 2 _ _ _) inferInstance w) ((run_equalIn_int w (d + 1) 2 _ _ _ _ tu2.h).trans (by rw [i64_beq])) (eqFields_cons (g := { name := "Lock", type := 24, offset := 1, embedded := false, tag := "", pkgPath := "", byteOffset := 8 }) (b := decide (a.lock = b.lock)) (by kernel_rfl) (run_field (inferInstance : TI Try.prog 24 _ _ _) inferInstance w) (run_field (inferInstance : TI Try.prog 24 _ _ _) inferInstance w) (run_equalIn_key (d + 0) w a.lock b.lock) (eqFields_nil)))).trans ?_
  congr 1; obtain ⟨a0, a1⟩ := a; obtain ⟨b0, b1⟩ := b; simp [Bool.and_assoc, Bool.decide_and], by kernel_rfl⟩
structure Tx where
  exp : UInt32
  ins : Hd Pt
  outs : Hd Ot
  anchor : Key
  nulls : Hd Key
  notes : Hd Key
  bal : Int64
  deriving Inhabited
@[reducible] def txE : Elem Tx := { sz := 38, agg := true, val := fun x => .agg (cats [#[.int .u32 (x.exp.toNat : Int)], #[.slice x.ins.A x.ins.n x.ins.c], #[.slice x.outs.A x.outs.n x.outs.c], kc x.anchor, #[.slice x.nulls.A x.nulls.n x.nulls.c], #[.slice x.notes.A x.notes.n x.notes.c], #[.int .i64 x.bal.toInt]]), ok := fun s x => SL s x.ins.A x.ins.n x.ins.c ptE x.ins.l ∧ SL s x.outs.A x.outs.n x.outs.c otE x.outs.l ∧ SL s x.nulls.A x.nulls.n x.nulls.c keyE x.nulls.l ∧ SL s x.notes.A x.notes.n x.notes.c keyE x.notes.l, nx := fun s s2 X x n h => ⟨SL.nx n h.1, SL.nx n h.2.1, SL.nx n h.2.2.1, SL.nx n h.2.2.2⟩, wk := fun s s2 x hw hm h => ⟨SL.wk_ hw hm h.1, SL.wk_ hw hm h.2.1, SL.wk_ hw hm h.2.2.1, SL.wk_ hw hm h.2.2.2⟩, pos := by omega, size := fun x => (by have h : CSz (cats [#[.int .u32 (x.exp.toNat : Int)], #[.slice x.ins.A x.ins.n x.ins.c], #[.slice x.outs.A x.outs.n x.outs.c], kc x.anchor, #[.slice x.nulls.A x.nulls.n x.nulls.c], #[.slice x.notes.A x.notes.n x.notes.c], #[.int .i64 x.bal.toInt]]) 38 := inferInstance; exact h.size), one := fun x => (by have h : CSz (cats [#[.int .u32 (x.exp.toNat : Int)], #[.slice x.ins.A x.ins.n x.ins.c], #[.slice x.outs.A x.outs.n x.outs.c], kc x.anchor, #[.slice x.nulls.A x.nulls.n x.nulls.c], #[.slice x.notes.A x.notes.n x.notes.c], #[.int .i64 x.bal.toInt]]) 38 := inferInstance; exact h.one), shapeA := fun _ _ => rfl, shape1 := nofun }
instance se_txE : SmallE txE := ⟨by decide⟩
instance fv_txE : FlatV txE (fun x => .agg (cats [#[.int .u32 (x.exp.toNat : Int)], #[.slice x.ins.A x.ins.n x.ins.c], #[.slice x.outs.A x.outs.n x.outs.c], kc x.anchor, #[.slice x.nulls.A x.nulls.n x.nulls.c], #[.slice x.notes.A x.notes.n x.notes.c], #[.int .i64 x.bal.toInt]])) := ⟨rfl⟩
instance (priority := high) ev_txE {s : St} {x : Tx} [h : OkE s txE x] : EncV s txE (.agg (cats [#[.int .u32 (x.exp.toNat : Int)], #[.slice x.ins.A x.ins.n x.ins.c], #[.slice x.outs.A x.outs.n x.outs.c], kc x.anchor, #[.slice x.nulls.A x.nulls.n x.nulls.c], #[.slice x.notes.A x.notes.n x.notes.c], #[.int .i64 x.bal.toInt]])) x := ⟨rfl, h.h⟩
instance (priority := low) ew_txE {s : St} {n0 : Int} {a0 : UInt32} [h0 : U32 n0 a0] {A1 : Option Addr} {n1 c1 : Nat} {l1 : List Pt} [h1 : SLq s A1 n1 c1 ptE l1] {A2 : Option Addr} {n2 c2 : Nat} {l2 : List Ot} [h2 : SLq s A2 n2 c2 otE l2] {a3 : Key} {A4 : Option Addr} {n4 c4 : Nat} {l4 : List Key} [h4 : SLq s A4 n4 c4 keyE l4] {A5 : Option Addr} {n5 c5 : Nat} {l5 : List Key} [h5 : SLq s A5 n5 c5 keyE l5] {n6 : Int} {a6 : Int64} [h6 : I64 n6 a6] : EncV s txE (.agg (cats [#[.int .u32 n0], #[.slice A1 n1 c1], #[.slice A2 n2 c2], kc a3, #[.slice A4 n4 c4], #[.slice A5 n5 c5], #[.int .i64 n6]])) ⟨a0, ⟨A1, n1, c1, l1⟩, ⟨A2, n2, c2, l2⟩, a3, ⟨A4, n4, c4, l4⟩, ⟨A5, n5, c5, l5⟩, a6⟩ := ⟨by rw [h0.eq, h6.eq], ⟨h1.sl, h2.sl, h4.sl, h5.sl⟩⟩
instance sl_txE_0 {s : St} {x : Tx} [h : OkE s txE x] : SL s x.ins.A x.ins.n x.ins.c ptE x.ins.l := h.h.1
instance sl_txE_1 {s : St} {x : Tx} [h : OkE s txE x] : SL s x.outs.A x.outs.n x.outs.c otE x.outs.l := h.h.2.1
instance sl_txE_2 {s : St} {x : Tx} [h : OkE s txE x] : SL s x.nulls.A x.nulls.n x.nulls.c keyE x.nulls.l := h.h.2.2.1
instance sl_txE_3 {s : St} {x : Tx} [h : OkE s txE x] : SL s x.notes.A x.notes.n x.notes.c keyE x.notes.l := h.h.2.2.2
abbrev z_txE : Tx := ⟨0, ⟨none, 0, 0, []⟩, ⟨none, 0, 0, []⟩, key0, ⟨none, 0, 0, []⟩, ⟨none, 0, 0, []⟩, 0⟩
instance eo_txE_29 : ElemOf Try.prog 29 txE 144 := ⟨inferInstance⟩
instance ze_txE_29 : ZeroE Try.prog 29 txE z_txE := ZeroE.of (show TZ Try.prog 29 _ from tz29) (fun _ => ⟨SL.nil_, SL.nil_, SL.nil_, SL.nil_⟩)
instance zv_txE_29 : ZeroVal Try.prog 29 txE z_txE := ⟨zv_of (by kernel_rfl)⟩
end Go.Proofs.Ytchdbmnikaacdaa

/- The library's functions on slices, at thurible/api.Point, by contract.  -/
set_option linter.all false
set_option maxHeartbeats 40000000
set_option synthInstance.maxHeartbeats 2000000
set_option synthInstance.maxSize 100000
namespace Go.Proofs.Ytchdbmnikaacdaa
open Go Go.RowKit
section
variable {σ : St} {A B : Option Addr} {n c m d : Nat} {xs ys : List Pt}
end
end Go.Proofs.Ytchdbmnikaacdaa

/- Maps whose keys are points; an entry that is turned in place.  -/
set_option linter.all false
set_option maxRecDepth 100000
set_option maxHeartbeats 40000000
set_option synthInstance.maxHeartbeats 2000000
set_option synthInstance.maxSize 100000
namespace Go.Proofs.Ytchdbmnikaacdaa
open Go Go.RowKit
section
variable {P : Program} {t kt et : TypeId} {α β : Type} [DecidableEq α] {EK : Elem α} {EV : Elem β} {σ σ' : St} {r : Nat} {M : List (α × β)} {f : Fr} {ty : TypeId} {bk bv : Nat}
/-- the map, the key's entry made -/
def entM (M : List (α × β)) (k : α) (z : β) : List (α × β) := if inM M k then M else M ++ [(k, z)]
theorem lookM_entM (M : List (α × β)) (k : α) (z : β) : lookM (entM M k z) k z = lookM M k z := by
  unfold entM
  split
  · rfl
  · rename_i h
    have h1 : inM M k = false := by simpa using h
    rw [lookM_none h1]
    have h2 : ∀ N : List (α × β), inM N k = false → lookM (N ++ [(k, z)]) k z = z := by
      intro N hN
      unfold lookM
      unfold inM at hN
      rw [List.any_eq_false] at hN
      rw [List.find?_append, List.find?_eq_none.2 (fun x hx => by simpa using hN x hx)]
      simp
    exact h2 M h1
theorem setM_len : ∀ (M : List (α × β)) (k : α) (v : β), (setM M k v).length = M.length
  | [], _, _ => rfl
  | p :: M, k, v => by
    unfold setM
    split
    · rfl
    · simp [setM_len M k v]
/-- an entry's place that is still to be written -/
class EntK (σ : St) (r : Nat) (st : Nat) (kt et : outParam TypeId) {α β : outParam Type} [DecidableEq α] (EK : outParam (Elem α)) (EV : outParam (Elem β)) (M : outParam (List (α × β))) (k : outParam α) : Prop where
  m : σ.M r
  h : ∃ (M1 : List (α × β)) (B : List Nat) (ck j : Nat) (u : β), σ.w.heap[r]? = some (.map ((M1.zip B).map (entE EK EV)).toArray ck) ∧ B.length = M1.length ∧ B.Nodup ∧ (∀ b ∈ B, b < ck) ∧ B[j]? = some st ∧ M1[j]? = some (k, u) ∧ (∀ v, M1.set j (k, v) = putM M k v) ∧ ∀ p ∈ M1, EK.ok σ p.1 ∧ EV.ok σ p.2
instance Step.makeMapN {x : Operand} {j : Int} {n : Nat} [h : Ev f x (.int .i64 j)] [q : ToNat j n] [u : U P t (.map kt et)] [ek : ElemOf P kt EK bk] [ev : ElemOf P et EV bv] :
    Step P (.makeMap t (some x)) ty f σ (fun K _ => ∀ (σ' : St) (r : Nat), Nx σ σ' .no → NewAt σ r → MapAt σ' r kt et EK EV [] → K (.map (some r)) σ') := ⟨fun K E' hK => by
  obtain ⟨σ', hw, hn, hm, _, ho, hs⟩ := st_new σ (.map #[] 0) True
  have e := q.eq; subst e
  have hr : (execOp (evo f) ⟨none, .makeMap t (some x), ty, "", #[], none⟩).run P σ.w = .ok (.value (.map (some σ.w.heap.size))) (σ.w.alloc (.map #[] 0)) := by
    simp [execOp, h.eq, Instr.makeMap, newObj, Sem.run, asInt, asIntOf, run_underlying u.h]
  unfold OpW; rw [hr]
  exact ⟨σ', hw, hK σ' _ ⟨hn⟩ ⟨Nat.le_refl _⟩ ⟨hm.2 trivial, ⟨[], 0, ho, rfl, List.nodup_nil, by simp⟩, by simp⟩⟩⟩
theorem zip_get {M : List (α × β)} {B : List Nat} {j : Nat} {p : α × β} {b : Nat} (h1 : M[j]? = some p) (h2 : B[j]? = some b) : (M.zip B)[j]? = some (p, b) := by
  rw [List.getElem?_zip_eq_some]; exact ⟨h1, h2⟩
instance Step.mapEntry {x y : Operand} {kv : Value} {k : α} {z : β} [h1 : Ev f x (.map (some r))] [h2 : Ev f y kv] [u : U P t (.map kt et)] [h : MapAt σ r kt et EK EV M] [ke : KeyE P kt EK] [en : EncV σ EK kv k] [ze : ZeroVal P et EV z] [ev : OkE σ EV z] :
    Step P (.mapEntry t x y) ty f σ (fun K _ => ∀ (σ' : St) (st : Nat), Nx σ σ' (.map r) → MapAt σ' r kt et EK EV (entM M k z) → EntK σ' r st kt et EK EV M k → K (.tuple #[EV.val (lookM M k z), .int .i64 (st : Int)]) σ') := ⟨fun K E' hK => by
  have hv := en.eq; subst hv
  obtain ⟨B, ck, hh, hl, hn, hb⟩ := h.h
  have hg : (getObj r).run P σ.w = .ok (.map ((M.zip B).map (entE EK EV)).toArray ck) σ.w := by simp [getObj, Sem.run, hh]
  have hf := run_findKey (EV := EV) ke k σ.w M B hl
  cases hi : fnd M k 0 with
  | none =>
    have hin : inM M k = false := fnd_none hi
    rw [hi, Option.map_none] at hf
    obtain ⟨σ', hrun, hnx, hm', hh'⟩ := st_setObj (P := P) (o' := .map (((M.zip B).map (entE EK EV)).toArray.push ⟨EK.val k, EV.val z, ck⟩) (ck + 1)) h.m hh ⟨_, _, rfl⟩ ⟨_, _, rfl⟩
    have hr : (execOp (evo f) ⟨none, .mapEntry t x y, ty, "", #[], none⟩).run P σ.w = .ok (.value (.tuple #[EV.val z, .int .i64 (ck : Int)])) σ'.w := by
      simp only [execOp, h1.eq, h2.eq, Instr.mapEntry, Sem.run_bind, run_underlying u.h, Result.andThen_ok, hg, ke.ck, hf, ze.h, hrun]
      rfl
    unfold OpW; rw [hr]
    rw [lookM_none hin] at hK
    have hent : entM M k z = M ++ [(k, z)] := by unfold entM; rw [hin]; rfl
    rw [hent] at hK
    have hh2 : σ'.w.heap[r]? = some (.map (((M ++ [(k, z)]).zip (B ++ [ck])).map (entE EK EV)).toArray (ck + 1)) := by
      rw [hh', List.zip_append hl.symm]; simp [entE]
    have hnd : (B ++ [ck]).Nodup := by
      rw [List.nodup_append]
      exact ⟨hn, by simp, fun a ha b hb' e => by simp at hb'; have := hb a ha; omega⟩
    have hbb : ∀ b ∈ B ++ [ck], b < ck + 1 := by
      intro b hb'
      rcases List.mem_append.1 hb' with h | h
      · have := hb b h; omega
      · simp at h; omega
    have hok : ∀ p ∈ M ++ [(k, z)], EK.ok σ' p.1 ∧ EV.ok σ' p.2 := by
      intro p hp
      rcases List.mem_append.1 hp with h' | h'
      · exact ⟨EK.nx _ _ _ _ hnx (h.ok p h').1, EV.nx _ _ _ _ hnx (h.ok p h').2⟩
      · simp at h'; subst h'; exact ⟨EK.nx _ _ _ _ hnx en.ok, EV.nx _ _ _ _ hnx ev.h⟩
    exact ⟨σ', rfl, hK σ' ck ⟨hnx⟩ ⟨hm', ⟨B ++ [ck], ck + 1, hh2, by simp [hl], hnd, hbb⟩, hok⟩
      ⟨hm', M ++ [(k, z)], B ++ [ck], ck + 1, M.length, z, hh2, by simp [hl], hnd, hbb, by rw [List.getElem?_append_right (by omega)]; simp [hl], by simp, fun v => by unfold putM; rw [hin]; simp, hok⟩⟩
  | some q =>
    obtain ⟨j, u0⟩ := q
    obtain ⟨hjl, _, hMj0, hin, hlook⟩ := fnd_some hi
    simp only [Nat.sub_zero] at hjl hMj0
    rw [hi, Option.map_some] at hf
    have hjB : j < B.length := by omega
    have hMj : M[j]? = some (k, u0) := by rw [List.getElem?_eq_getElem hjl, hMj0]
    have hBj : B[j]? = some B[j] := List.getElem?_eq_getElem hjB
    have hsi := fun v => set_idx k v M 0 j u0 hi
    simp only [Nat.sub_zero] at hsi
    have hzj : (M.zip B)[j]? = some ((k, u0), B[j]) := zip_get hMj hBj
    have hes : (((M.zip B).map (entE EK EV)).toArray)[j]? = some ⟨EK.val k, EV.val u0, B[j]⟩ := by
      simp [hzj, entE]
    have hset : (((M.zip B).map (entE EK EV)).toArray).modify j (fun e => { e with key := EK.val k }) = ((M.zip B).map (entE EK EV)).toArray := by
      apply Array.ext_getElem?
      intro i
      rw [Array.getElem?_modify]
      by_cases e : j = i
      · subst e; rw [if_pos rfl, hes]; rfl
      · rw [if_neg e]
    obtain ⟨σ', hrun, hnx, hm', hh'⟩ := st_setObj (P := P) (o' := .map ((M.zip B).map (entE EK EV)).toArray ck) h.m hh ⟨_, _, rfl⟩ ⟨_, _, rfl⟩
    have hk : (Instr.keyThatStays (EK.val k) (EK.val k)).run P σ.w = .ok (EK.val k) σ.w := by
      unfold Instr.keyThatStays; rw [if_pos (ke.bits k)]; rfl
    have hr : (execOp (evo f) ⟨none, .mapEntry t x y, ty, "", #[], none⟩).run P σ.w = .ok (.value (.tuple #[EV.val u0, .int .i64 ((B[j] : Nat) : Int)])) σ'.w := by
      simp only [execOp, h1.eq, h2.eq, Instr.mapEntry, Sem.run_bind, run_underlying u.h, Result.andThen_ok, hg, ke.ck, hf]
      rw [hes]
      simp only [Option.map_some, Option.getD_some, hk, Result.andThen_ok, hset, hrun]
      rfl
    unfold OpW; rw [hr]
    have hent : entM M k z = M := by unfold entM; rw [if_pos hin]
    rw [hlook z, hent] at hK
    have hok : ∀ p ∈ M, EK.ok σ' p.1 ∧ EV.ok σ' p.2 := fun p hp => ⟨EK.nx _ _ _ _ hnx (h.ok p hp).1, EV.nx _ _ _ _ hnx (h.ok p hp).2⟩
    exact ⟨σ', rfl, hK σ' B[j] ⟨hnx⟩ ⟨hm', ⟨B, ck, hh', hl, hn, hb⟩, hok⟩
      ⟨hm', M, B, ck, j, u0, hh', hl, hn, hb, hBj, hMj, fun v => by unfold putM; rw [if_pos hin]; exact (hsi v).symm, hok⟩⟩⟩
instance Step.entryStore {x y y2 : Operand} {vv : Value} {j : Int} {st : Nat} {k : α} {v : β} [h1 : Ev f x (.map (some r))] [h2 : Ev f y (.int .i64 j)] [h3 : Ev f y2 vv] [q : ToNat j st] [en : EntK σ r st kt et EK EV M k] [ev : EncV σ EV vv v] :
    Step P (.entryStore t x y y2) ty f σ (fun K _ => ∀ σ' : St, Nx σ σ' (.map r) → MapAt σ' r kt et EK EV (putM M k v) → K undef σ') := ⟨fun K E' hK => by
  have hv := ev.eq; subst hv
  have hq := q.eq; subst hq
  obtain ⟨M1, B, ck, jj, u, hh, hl, hn, hb, hBj, hMj, hset, hok⟩ := en.h
  have hg : (getObj r).run P σ.w = .ok (.map ((M1.zip B).map (entE EK EV)).toArray ck) σ.w := by simp [getObj, Sem.run, hh]
  have hjl : jj < M1.length := (List.getElem?_eq_some_iff.1 hMj).1
  have hjB : jj < B.length := (List.getElem?_eq_some_iff.1 hBj).1
  have hzj := zip_get hMj hBj
  have hfi : (((M1.zip B).map (entE EK EV)).toArray).findIdx? (fun e => (e.born : Int) == (st : Int)) = some jj := by
    rw [Array.findIdx?_eq_some_iff_getElem]
    have hsz : jj < ((M1.zip B).map (entE EK EV)).toArray.size := by simp [hl]; omega
    have hget : ∀ i (h : i < ((M1.zip B).map (entE EK EV)).toArray.size), (((M1.zip B).map (entE EK EV)).toArray[i]).born = B[i]'(by simp [hl] at h; omega) := by
      intro i h; simp [entE]
    have hBB : B[jj] = st := by rw [List.getElem?_eq_getElem hjB] at hBj; injection hBj
    refine ⟨hsz, by rw [hget jj hsz, hBB]; simp, fun i hi => ?_⟩
    have hiB : i < B.length := by omega
    have hi2 : i < ((M1.zip B).map (entE EK EV)).toArray.size := by omega
    have hne : B[i] ≠ B[jj] := List.pairwise_iff_getElem.1 hn i jj hiB hjB hi
    rw [hget i hi2]
    rw [hBB] at hne
    simp only [beq_iff_eq]
    intro e; exact hne (by omega)
  have hmod : (((M1.zip B).map (entE EK EV)).toArray).modify jj (fun e => { e with val := EV.val v }) = (((M1.set jj (k, v)).zip B).map (entE EK EV)).toArray := by
    apply Array.ext_getElem?
    intro i
    rw [Array.getElem?_modify]
    by_cases e : jj = i
    · subst e
      have hz2 : ((M1.set jj (k, v)).zip B)[jj]? = some ((k, v), st) := zip_get (by simp [hjl]) hBj
      simp [hzj, hz2, entE]
    · rw [if_neg e]
      have hz2 : ((M1.set jj (k, v)).zip B)[i]? = (M1.zip B)[i]? := by
        simp only [List.zip, List.getElem?_zipWith, List.getElem?_set_ne e]
      simp [hz2]
  obtain ⟨σ', hrun, hnx, hm', hh'⟩ := st_setObj (P := P) (o' := .map (((M1.set jj (k, v)).zip B).map (entE EK EV)).toArray ck) en.m hh ⟨_, _, rfl⟩ ⟨_, _, rfl⟩
  have hr : (execOp (evo f) ⟨none, .entryStore t x y y2, ty, "", #[], none⟩).run P σ.w = .ok .skip σ'.w := by
    simp only [execOp, h1.eq, h2.eq, h3.eq, Instr.entryStore, Sem.run_bind, Result.andThen_ok, hg, asInt, asIntOf, Sem.run_map, Sem.run_pure, hfi, hmod, hrun]
  unfold OpW; rw [hr]
  rw [← hset v] at hK
  refine ⟨σ', rfl, hK σ' ⟨hnx⟩ ⟨hm', ⟨B, ck, hh', by simp [hl], hn, hb⟩, fun p hp => ?_⟩⟩
  rcases List.mem_or_eq_of_mem_set hp with h' | h'
  · exact ⟨EK.nx _ _ _ _ hnx (hok p h').1, EV.nx _ _ _ _ hnx (hok p h').2⟩
  · subst h'
    have hkm := List.mem_of_getElem? hMj
    exact ⟨EK.nx _ _ _ _ hnx (hok _ hkm).1, EV.nx _ _ _ _ hnx ev.ok⟩⟩
end
/-! a struct of numbers as a key -/
theorem bits_ints (l : List Value) (h : ∀ v ∈ l, ∃ k n, v = .int k n) : Instr.sameBits 10000 (.agg l.toArray) (.agg l.toArray) = true := by
  have h2 : ∀ l : List Value, (∀ v ∈ l, ∃ k n, v = .int k n) → ((l.zip l).all fun (x, y) => Instr.sameBits 9999 x y) = true := by
    intro l
    induction l with
    | nil => intro _; rfl
    | cons v l ih =>
      intro hv
      obtain ⟨k, n, rfl⟩ := hv v (by simp)
      simp only [List.zip_cons_cons, List.all_cons, Bool.and_eq_true]
      exact ⟨by simp [Instr.sameBits], ih (fun u hu => hv u (by simp [hu]))⟩
  rw [show (10000 : Nat) = 9999 + 1 from rfl]
  unfold Instr.sameBits
  simp only [BEq.rfl, Bool.true_and]
  exact h2 l h
theorem kc_ints (k : Key) : ∀ v ∈ (kc k).toList, ∃ j n, v = .int j n := fun v hv => by
  simp only [kc, Array.toList_map, List.mem_map] at hv
  obtain ⟨b, _, rfl⟩ := hv
  exact ⟨_, _, rfl⟩
theorem ck_key' (e : Bool) (k : Nat) (a : Key) (w : World) : (Instr.checkKey e (k + 2) 24 (.agg (kc a))).run Try.prog w = .ok () w := by
  rw [Instr.checkKey]
  simp only [Sem.run_bind, run_underlying (inferInstance : U Try.prog 24 _).h, Result.andThen_ok]
  simp only [Std.Legacy.Range.forIn_eq_forIn_range', Std.Legacy.Range.size, Nat.sub_zero, Nat.add_one_sub_one, Nat.div_one]
  have key : ∀ is : List Nat, (∀ i ∈ is, i < 32) → (forIn is PUnit.unit (fun i _ => do
      let z ← sizeOf 5
      let y ← part 5 (kc a) (i * z)
      Instr.checkKey e (k + 1) 5 y
      pure (ForInStep.yield PUnit.unit)) : Sem PUnit).run Try.prog w = .ok () w := by
    intro is
    induction is with
    | nil => intro _; simp
    | cons i is ih =>
      intro h
      have ti := (inferInstance : TI Try.prog 5 false 1 1)
      have hi := h i (by simp)
      have hp : (part 5 (kc a) (i * 1)).run Try.prog w = .ok (u8v a[i]) w := run_part1 ti (by simpa using kc_get a i hi) w
      simp only [List.forIn_cons, Sem.run_bind, ti.run_sizeOf, Result.andThen_ok, hp, ck_u8 e k _ w, Sem.run_pure]
      exact ih (fun j hj => h j (by simp [hj]))
  rw [key _ (fun i hi => by rw [List.mem_range'] at hi; omega)]
  simp
theorem ck_pt' (e : Bool) (n : Nat) (a : Pt) (w : World) : (Instr.checkKey e (n + 3) 43 (ptE.val a)).run Try.prog w = .ok () w := by
  show (Instr.checkKey e (n + 2 + 1) 43 (.agg _)).run Try.prog w = _
  rw [Instr.checkKey]
  simp only [Sem.run_bind, run_underlying (inferInstance : U Try.prog 43 _).h, Result.andThen_ok]
  have p1 := run_field (P := Try.prog) (cs := cats [kc a.tx, #[.int .u32 (a.idx.toNat : Int)]]) (fo := 0) (inferInstance : TI Try.prog 24 _ _ _) inferInstance w
  have p2 := run_field (P := Try.prog) (cs := cats [kc a.tx, #[.int .u32 (a.idx.toNat : Int)]]) (fo := 32) (inferInstance : TI Try.prog 22 _ _ _) inferInstance w
  have c2 : (Instr.checkKey e (n + 2) 22 (.int .u32 (a.idx.toNat : Int))).run Try.prog w = .ok () w := by
    rw [show n + 2 = (n + 1) + 1 from rfl]
    simp [Instr.checkKey, run_underlying (inferInstance : U Try.prog 22 _).h]
  have c1 := ck_key' e n a.tx w
  rw [← Array.forIn_toList]
  simp [p1, p2, c1, c2]
instance ke_pt : KeyE Try.prog 43 ptE :=
  ⟨⟨_, (inferInstance : U Try.prog 43 _).h, fun _ _ => rfl⟩, fun a b w => (inferInstance : EqD Try.prog 43 ptE _).run 9997 w a b, fun e a w => ck_pt' e 9997 a w, fun a => bits_ints (cats [kc a.tx, #[.int .u32 (a.idx.toNat : Int)]]).toList (fun v hv => by
    rw [cats_toList] at hv
    simp only [List.flatMap_cons, List.flatMap_nil, List.append_nil, List.mem_append] at hv
    rcases hv with hv | hv
    · exact kc_ints _ v hv
    · rcases List.mem_cons.1 hv with rfl | hv
      · exact ⟨_, _, rfl⟩
      · cases hv)⟩
/-! numbers as values of a map -/
@[reducible] def intE : Elem Int := { sz := 1, agg := false, val := fun x => .int .i64 x, ok := fun _ _ => True, pos := by omega, size := fun _ => rfl, one := fun x v hv => (by simp [Value.cells] at hv; subst hv; rfl), shapeA := nofun, shape1 := fun _ _ => rfl }
instance eo_int : ElemOf Try.prog 3 intE 8 := ⟨inferInstance⟩
instance fv_int : FlatV intE (fun x => .int .i64 x) := ⟨rfl⟩
instance ev_int {σ : St} {x : Int} : EncV σ intE (.int .i64 x) x := ⟨rfl, trivial⟩
instance ok_int {σ : St} {x : Int} : OkE σ intE x := ⟨trivial⟩
instance zv_int : ZeroVal Try.prog 3 intE 0 := ⟨zv_of (by kernel_rfl)⟩
end Go.Proofs.Ytchdbmnikaacdaa

/- Transactions: is it a coinbase, by contract.  -/
set_option linter.all false
set_option maxHeartbeats 40000000
set_option synthInstance.maxHeartbeats 2000000
set_option synthInstance.maxSize 100000
namespace Go.Proofs.Ytchdbmnikaacdaa
open Go Go.RowKit
def cbM (t : Tx) : Bool := decide ((t.ins.l.length : Int) = 1) && decide (t.ins.l[0]!.tx = key0)
section
variable {σ : St} {v1 v2 : Value} {t : Tx} {id : Key}
instance rule_ref_Coinbase [h : EncV σ txE v1 t] {bb : Bool} [q : BV (cbM t) bb] : CallRule Try.prog 6 [v1] σ (fun K _ => ∀ σ', Nx σ σ' .no → K (.bool bb) σ') := ⟨fun K E hK => by
  have e1 : v1 = .agg (cats [#[.int .u32 (t.exp.toNat : Int)], #[.slice t.ins.A t.ins.n t.ins.c], #[.slice t.outs.A t.outs.n t.outs.c], kc t.anchor, #[.slice t.nulls.A t.nulls.n t.nulls.c], #[.slice t.notes.A t.notes.n t.notes.c], #[.int .i64 t.bal.toInt]]) := h.eq
  subst e1
  haveI : OkE σ txE t := ⟨h.ok⟩
  have hq := q.eq; subst hq
  have hl := (inferInstance : SL σ t.ins.A t.ins.n t.ins.c ptE t.ins.l).len
  by_cases h1 : t.ins.n = 1
  · haveI : BV (decide ((t.ins.n : Int) = 1)) true := ⟨by simp; omega⟩
    haveI : IdxLt 0 t.ins.n := ⟨by omega⟩
    have e : cbM t = decide (t.ins.l[0]!.tx = key0) := by unfold cbM; rw [hl, h1]; rfl
    rw [e] at hK
    refine calls_enter Try.func6 rfl _ Try.ntmps6 rfl ?_
    (repeat (first | refine go ?_ | refine goR ?_ | refine goS (fun yc hyc => ?_) | refine goL (fun _ _ => inferInstance) ?_ | with_reducible intro _ | refine goO (by first | omega | (simp only [List.length_cons, List.length_nil]; omega)) ?_ | fail))
    exact backN (σ0 := σ) Try.results6 (fun σ' _ _ => hK σ' inferInstance)
  · haveI : BV (decide ((t.ins.n : Int) = 1)) false := ⟨by simp; omega⟩
    have e : cbM t = false := by unfold cbM; rw [hl]; simp; omega
    rw [e] at hK
    refine calls_enter Try.func6 rfl _ Try.ntmps6 rfl ?_
    (repeat (first | refine go ?_ | refine goR ?_ | refine goS (fun yc hyc => ?_) | refine goL (fun _ _ => inferInstance) ?_ | with_reducible intro _ | refine goO (by first | omega | (simp only [List.length_cons, List.length_nil]; omega)) ?_ | fail))
    exact backN (σ0 := σ) Try.results6 (fun σ' _ _ => hK σ' inferInstance)⟩
end
end Go.Proofs.Ytchdbmnikaacdaa
