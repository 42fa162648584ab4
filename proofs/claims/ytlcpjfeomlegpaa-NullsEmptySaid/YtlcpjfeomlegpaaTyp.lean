/- Made by gen_typ.py: what each type of the translation is, and which functions have a body. No condition. -/
import Derived.KernelRfl
import Derived.Test.YtlcpjfeomlegpaaOps
set_option linter.all false
set_option maxRecDepth 100000
namespace Go.Proofs.Ytlcpjfeomlegpaa
open Go Go.RowKit
theorem TI.mk_ {P : Program} {t : TypeId} {d : TypeDesc} {agg : Bool} {size bytes : Nat} (hd : P.underlying t = some d) (ha : aggD d = agg) (hi : (P.info? t).map (fun i => (i.size, i.bytes)) = some (size, bytes)) : TI P t agg size bytes := by
  cases h : P.info? t with
  | none => rw [h] at hi; cases hi
  | some i =>
    rw [h] at hi
    simp only [Option.map_some, Option.some.injEq, Prod.mk.injEq] at hi
    exact ⟨d, i, hd, ha, h, hi.1, hi.2⟩
theorem TZ.mk_ {P : Program} {t : TypeId} {cs : Array Value} (hi : (P.info? t).bind (fun i => i.zero.map (·.cells)) = some cs) : TZ P t cs := by
  cases h : P.info? t with
  | none => rw [h] at hi; cases hi
  | some i =>
    rw [h] at hi
    simp only [Option.bind_some, Option.map_eq_some_iff] at hi
    obtain ⟨z, hz, hc⟩ := hi
    exact ⟨i, z, h, hz, hc⟩
instance tu0 : U Try.prog 0 (TypeDesc.tuple #[]) := ⟨Try.underlying0⟩
instance tu1 : U Try.prog 1 (TypeDesc.func #[] #[] false) := ⟨Try.underlying1⟩
instance ti1 : TI Try.prog 1 false 1 8 := TI.mk_ Try.underlying1 rfl (by kernel_rfl)
instance tz1 : TZ Try.prog 1 #[.nilFunc] := TZ.mk_ (by kernel_rfl)
instance tu2 : U Try.prog 2 (TypeDesc.int IntKind.i64) := ⟨Try.underlying2⟩
instance ti2 : TI Try.prog 2 false 1 8 := TI.mk_ Try.underlying2 rfl (by kernel_rfl)
instance tz2 : TZ Try.prog 2 #[.int .i64 0] := TZ.mk_ (by kernel_rfl)
instance tu3 : U Try.prog 3 (TypeDesc.int IntKind.i64) := ⟨Try.underlying3⟩
instance ti3 : TI Try.prog 3 false 1 8 := TI.mk_ Try.underlying3 rfl (by kernel_rfl)
instance tz3 : TZ Try.prog 3 #[.int .i64 0] := TZ.mk_ (by kernel_rfl)
instance tu4 : U Try.prog 4 (TypeDesc.bool) := ⟨Try.underlying4⟩
instance ti4 : TI Try.prog 4 false 1 1 := TI.mk_ Try.underlying4 rfl (by kernel_rfl)
instance tz4 : TZ Try.prog 4 #[.bool false] := TZ.mk_ (by kernel_rfl)
instance tu5 : U Try.prog 5 (TypeDesc.int IntKind.u8) := ⟨Try.underlying5⟩
instance ti5 : TI Try.prog 5 false 1 1 := TI.mk_ Try.underlying5 rfl (by kernel_rfl)
instance tz5 : TZ Try.prog 5 #[.int .u8 0] := TZ.mk_ (by kernel_rfl)
instance tu6 : U Try.prog 6 (TypeDesc.int IntKind.u8) := ⟨Try.underlying6⟩
instance ti6 : TI Try.prog 6 false 1 1 := TI.mk_ Try.underlying6 rfl (by kernel_rfl)
instance tz6 : TZ Try.prog 6 #[.int .u8 0] := TZ.mk_ (by kernel_rfl)
instance tu7 : U Try.prog 7 (TypeDesc.struct #[{ name := "x", type := 2, offset := 0, embedded := false, tag := "", pkgPath := "runtime", byteOffset := 0 }, { name := "y", type := 3, offset := 1, embedded := false, tag := "", pkgPath := "runtime", byteOffset := 8 }, { name := "signed", type := 4, offset := 2, embedded := false, tag := "", pkgPath := "runtime", byteOffset := 16 }, { name := "code", type := 6, offset := 3, embedded := false, tag := "", pkgPath := "runtime", byteOffset := 17 }]) := ⟨Try.underlying7⟩
instance ti7 : TI Try.prog 7 true 4 24 := TI.mk_ Try.underlying7 rfl (by kernel_rfl)
instance tu8 : U Try.prog 8 (TypeDesc.struct #[{ name := "x", type := 2, offset := 0, embedded := false, tag := "", pkgPath := "runtime", byteOffset := 0 }, { name := "y", type := 3, offset := 1, embedded := false, tag := "", pkgPath := "runtime", byteOffset := 8 }, { name := "signed", type := 4, offset := 2, embedded := false, tag := "", pkgPath := "runtime", byteOffset := 16 }, { name := "code", type := 6, offset := 3, embedded := false, tag := "", pkgPath := "runtime", byteOffset := 17 }]) := ⟨Try.underlying8⟩
instance ti8 : TI Try.prog 8 true 4 24 := TI.mk_ Try.underlying8 rfl (by kernel_rfl)
instance tu9 : U Try.prog 9 (TypeDesc.string) := ⟨Try.underlying9⟩
instance ti9 : TI Try.prog 9 false 1 16 := TI.mk_ Try.underlying9 rfl (by kernel_rfl)
instance tz9 : TZ Try.prog 9 #[.string .empty] := TZ.mk_ (by kernel_rfl)
instance tu10 : U Try.prog 10 (TypeDesc.string) := ⟨Try.underlying10⟩
instance ti10 : TI Try.prog 10 false 1 16 := TI.mk_ Try.underlying10 rfl (by kernel_rfl)
instance tz10 : TZ Try.prog 10 #[.string .empty] := TZ.mk_ (by kernel_rfl)
instance tu11 : U Try.prog 11 (TypeDesc.string) := ⟨Try.underlying11⟩
instance ti11 : TI Try.prog 11 false 1 16 := TI.mk_ Try.underlying11 rfl (by kernel_rfl)
instance tz11 : TZ Try.prog 11 #[.string .empty] := TZ.mk_ (by kernel_rfl)
instance tu12 : U Try.prog 12 (TypeDesc.int IntKind.u64) := ⟨Try.underlying12⟩
instance ti12 : TI Try.prog 12 false 1 8 := TI.mk_ Try.underlying12 rfl (by kernel_rfl)
instance tz12 : TZ Try.prog 12 #[.int .u64 0] := TZ.mk_ (by kernel_rfl)
instance tu13 : U Try.prog 13 (TypeDesc.struct #[{ name := "msg", type := 9, offset := 0, embedded := false, tag := "", pkgPath := "runtime", byteOffset := 0 }, { name := "addr", type := 12, offset := 1, embedded := false, tag := "", pkgPath := "runtime", byteOffset := 16 }]) := ⟨Try.underlying13⟩
instance ti13 : TI Try.prog 13 true 2 24 := TI.mk_ Try.underlying13 rfl (by kernel_rfl)
instance tu14 : U Try.prog 14 (TypeDesc.struct #[{ name := "msg", type := 9, offset := 0, embedded := false, tag := "", pkgPath := "runtime", byteOffset := 0 }, { name := "addr", type := 12, offset := 1, embedded := false, tag := "", pkgPath := "runtime", byteOffset := 16 }]) := ⟨Try.underlying14⟩
instance ti14 : TI Try.prog 14 true 2 24 := TI.mk_ Try.underlying14 rfl (by kernel_rfl)
instance tu15 : U Try.prog 15 (TypeDesc.pointer 61) := ⟨Try.underlying15⟩
instance ti15 : TI Try.prog 15 false 1 8 := TI.mk_ Try.underlying15 rfl (by kernel_rfl)
instance tz15 : TZ Try.prog 15 #[.pointer none] := TZ.mk_ (by kernel_rfl)
instance tu16 : U Try.prog 16 (TypeDesc.pointer 64) := ⟨Try.underlying16⟩
instance ti16 : TI Try.prog 16 false 1 8 := TI.mk_ Try.underlying16 rfl (by kernel_rfl)
instance tz16 : TZ Try.prog 16 #[.pointer none] := TZ.mk_ (by kernel_rfl)
instance tu17 : U Try.prog 17 (TypeDesc.pointer 74) := ⟨Try.underlying17⟩
instance ti17 : TI Try.prog 17 false 1 8 := TI.mk_ Try.underlying17 rfl (by kernel_rfl)
instance tz17 : TZ Try.prog 17 #[.pointer none] := TZ.mk_ (by kernel_rfl)
instance tu18 : U Try.prog 18 (TypeDesc.struct #[{ name := "typ", type := 17, offset := 0, embedded := false, tag := "", pkgPath := "internal/runtime/maps", byteOffset := 0 }]) := ⟨Try.underlying18⟩
instance ti18 : TI Try.prog 18 true 1 8 := TI.mk_ Try.underlying18 rfl (by kernel_rfl)
instance tu19 : U Try.prog 19 (TypeDesc.struct #[{ name := "typ", type := 17, offset := 0, embedded := false, tag := "", pkgPath := "internal/runtime/maps", byteOffset := 0 }]) := ⟨Try.underlying19⟩
instance ti19 : TI Try.prog 19 true 1 8 := TI.mk_ Try.underlying19 rfl (by kernel_rfl)
instance tu20 : U Try.prog 20 (TypeDesc.interface #[]) := ⟨Try.underlying20⟩
instance ti20 : TI Try.prog 20 false 1 16 := TI.mk_ Try.underlying20 rfl (by kernel_rfl)
instance tz20 : TZ Try.prog 20 #[.nilIface] := TZ.mk_ (by kernel_rfl)
instance tu21 : U Try.prog 21 (TypeDesc.int IntKind.i32) := ⟨Try.underlying21⟩
instance ti21 : TI Try.prog 21 false 1 4 := TI.mk_ Try.underlying21 rfl (by kernel_rfl)
instance tz21 : TZ Try.prog 21 #[.int .i32 0] := TZ.mk_ (by kernel_rfl)
instance tu22 : U Try.prog 22 (TypeDesc.slice 29) := ⟨Try.underlying22⟩
instance ti22 : TI Try.prog 22 false 1 24 := TI.mk_ Try.underlying22 rfl (by kernel_rfl)
instance tz22 : TZ Try.prog 22 #[.slice none 0 0] := TZ.mk_ (by kernel_rfl)
instance tu23 : U Try.prog 23 (TypeDesc.func #[] #[4] false) := ⟨Try.underlying23⟩
instance ti23 : TI Try.prog 23 false 1 8 := TI.mk_ Try.underlying23 rfl (by kernel_rfl)
instance tz23 : TZ Try.prog 23 #[.nilFunc] := TZ.mk_ (by kernel_rfl)
instance tu24 : U Try.prog 24 (TypeDesc.int IntKind.i64) := ⟨Try.underlying24⟩
instance ti24 : TI Try.prog 24 false 1 8 := TI.mk_ Try.underlying24 rfl (by kernel_rfl)
instance tz24 : TZ Try.prog 24 #[.int .i64 0] := TZ.mk_ (by kernel_rfl)
instance tu25 : U Try.prog 25 (TypeDesc.tuple #[22, 24]) := ⟨Try.underlying25⟩
instance tu26 : U Try.prog 26 (TypeDesc.func #[22, 22] #[22, 24] false) := ⟨Try.underlying26⟩
instance ti26 : TI Try.prog 26 false 1 8 := TI.mk_ Try.underlying26 rfl (by kernel_rfl)
instance tz26 : TZ Try.prog 26 #[.nilFunc] := TZ.mk_ (by kernel_rfl)
instance tu27 : U Try.prog 27 (TypeDesc.func #[22, 22] #[4] false) := ⟨Try.underlying27⟩
instance ti27 : TI Try.prog 27 false 1 8 := TI.mk_ Try.underlying27 rfl (by kernel_rfl)
instance tz27 : TZ Try.prog 27 #[.nilFunc] := TZ.mk_ (by kernel_rfl)
instance tu28 : U Try.prog 28 (TypeDesc.array 32 5) := ⟨Try.underlying28⟩
instance ti28 : TI Try.prog 28 true 32 32 := TI.mk_ Try.underlying28 rfl (by kernel_rfl)
instance tu29 : U Try.prog 29 (TypeDesc.array 32 5) := ⟨Try.underlying29⟩
instance ti29 : TI Try.prog 29 true 32 32 := TI.mk_ Try.underlying29 rfl (by kernel_rfl)
instance tu30 : U Try.prog 30 (TypeDesc.func #[22] #[22] false) := ⟨Try.underlying30⟩
instance ti30 : TI Try.prog 30 false 1 8 := TI.mk_ Try.underlying30 rfl (by kernel_rfl)
instance tz30 : TZ Try.prog 30 #[.nilFunc] := TZ.mk_ (by kernel_rfl)
instance tu31 : U Try.prog 31 (TypeDesc.func #[22] #[4] false) := ⟨Try.underlying31⟩
instance ti31 : TI Try.prog 31 false 1 8 := TI.mk_ Try.underlying31 rfl (by kernel_rfl)
instance tz31 : TZ Try.prog 31 #[.nilFunc] := TZ.mk_ (by kernel_rfl)
instance tu32 : U Try.prog 32 (TypeDesc.func #[22, 29] #[4] false) := ⟨Try.underlying32⟩
instance ti32 : TI Try.prog 32 false 1 8 := TI.mk_ Try.underlying32 rfl (by kernel_rfl)
instance tz32 : TZ Try.prog 32 #[.nilFunc] := TZ.mk_ (by kernel_rfl)
instance tu33 : U Try.prog 33 (TypeDesc.func #[22, 22, 29] #[4] false) := ⟨Try.underlying33⟩
instance ti33 : TI Try.prog 33 false 1 8 := TI.mk_ Try.underlying33 rfl (by kernel_rfl)
instance tz33 : TZ Try.prog 33 #[.nilFunc] := TZ.mk_ (by kernel_rfl)
instance tu34 : U Try.prog 34 (TypeDesc.func #[22, 22, 5] #[4] false) := ⟨Try.underlying34⟩
instance ti34 : TI Try.prog 34 false 1 8 := TI.mk_ Try.underlying34 rfl (by kernel_rfl)
instance tz34 : TZ Try.prog 34 #[.nilFunc] := TZ.mk_ (by kernel_rfl)
instance tu35 : U Try.prog 35 (TypeDesc.tuple #[22, 4]) := ⟨Try.underlying35⟩
instance tu36 : U Try.prog 36 (TypeDesc.func #[22, 29] #[22, 4] false) := ⟨Try.underlying36⟩
instance ti36 : TI Try.prog 36 false 1 8 := TI.mk_ Try.underlying36 rfl (by kernel_rfl)
instance tz36 : TZ Try.prog 36 #[.nilFunc] := TZ.mk_ (by kernel_rfl)
instance tu37 : U Try.prog 37 (TypeDesc.func #[22, 22, 36, 24] #[22, 24] false) := ⟨Try.underlying37⟩
instance ti37 : TI Try.prog 37 false 1 8 := TI.mk_ Try.underlying37 rfl (by kernel_rfl)
instance tz37 : TZ Try.prog 37 #[.nilFunc] := TZ.mk_ (by kernel_rfl)
instance tu38 : U Try.prog 38 (TypeDesc.func #[22, 29] #[22] false) := ⟨Try.underlying38⟩
instance ti38 : TI Try.prog 38 false 1 8 := TI.mk_ Try.underlying38 rfl (by kernel_rfl)
instance tz38 : TZ Try.prog 38 #[.nilFunc] := TZ.mk_ (by kernel_rfl)
instance tu39 : U Try.prog 39 (TypeDesc.tuple #[3, 4]) := ⟨Try.underlying39⟩
instance tu40 : U Try.prog 40 (TypeDesc.func #[22, 29] #[3, 4] false) := ⟨Try.underlying40⟩
instance ti40 : TI Try.prog 40 false 1 8 := TI.mk_ Try.underlying40 rfl (by kernel_rfl)
instance tz40 : TZ Try.prog 40 #[.nilFunc] := TZ.mk_ (by kernel_rfl)
instance tu41 : U Try.prog 41 (TypeDesc.func #[22, 3, 22] #[22] true) := ⟨Try.underlying41⟩
instance ti41 : TI Try.prog 41 false 1 8 := TI.mk_ Try.underlying41 rfl (by kernel_rfl)
instance tz41 : TZ Try.prog 41 #[.nilFunc] := TZ.mk_ (by kernel_rfl)
instance tu42 : U Try.prog 42 (TypeDesc.func #[22, 3, 3] #[22] false) := ⟨Try.underlying42⟩
instance ti42 : TI Try.prog 42 false 1 8 := TI.mk_ Try.underlying42 rfl (by kernel_rfl)
instance tz42 : TZ Try.prog 42 #[.nilFunc] := TZ.mk_ (by kernel_rfl)
instance tu43 : U Try.prog 43 (TypeDesc.func #[29, 29] #[3] false) := ⟨Try.underlying43⟩
instance ti43 : TI Try.prog 43 false 1 8 := TI.mk_ Try.underlying43 rfl (by kernel_rfl)
instance tz43 : TZ Try.prog 43 #[.nilFunc] := TZ.mk_ (by kernel_rfl)
instance tu44 : U Try.prog 44 (TypeDesc.func #[29, 29] #[4] false) := ⟨Try.underlying44⟩
instance ti44 : TI Try.prog 44 false 1 8 := TI.mk_ Try.underlying44 rfl (by kernel_rfl)
instance tz44 : TZ Try.prog 44 #[.nilFunc] := TZ.mk_ (by kernel_rfl)
instance tu45 : U Try.prog 45 (TypeDesc.func #[22, 43] #[4] false) := ⟨Try.underlying45⟩
instance ti45 : TI Try.prog 45 false 1 8 := TI.mk_ Try.underlying45 rfl (by kernel_rfl)
instance tz45 : TZ Try.prog 45 #[.nilFunc] := TZ.mk_ (by kernel_rfl)
instance tu46 : U Try.prog 46 (TypeDesc.func #[22, 29, 43] #[3, 4] false) := ⟨Try.underlying46⟩
instance ti46 : TI Try.prog 46 false 1 8 := TI.mk_ Try.underlying46 rfl (by kernel_rfl)
instance tz46 : TZ Try.prog 46 #[.nilFunc] := TZ.mk_ (by kernel_rfl)
instance tu47 : U Try.prog 47 (TypeDesc.func #[22, 29] #[3] false) := ⟨Try.underlying47⟩
instance ti47 : TI Try.prog 47 false 1 8 := TI.mk_ Try.underlying47 rfl (by kernel_rfl)
instance tz47 : TZ Try.prog 47 #[.nilFunc] := TZ.mk_ (by kernel_rfl)
instance tu48 : U Try.prog 48 (TypeDesc.func #[29] #[4] false) := ⟨Try.underlying48⟩
instance ti48 : TI Try.prog 48 false 1 8 := TI.mk_ Try.underlying48 rfl (by kernel_rfl)
instance tz48 : TZ Try.prog 48 #[.nilFunc] := TZ.mk_ (by kernel_rfl)
instance tu49 : U Try.prog 49 (TypeDesc.func #[22, 48] #[3] false) := ⟨Try.underlying49⟩
instance ti49 : TI Try.prog 49 false 1 8 := TI.mk_ Try.underlying49 rfl (by kernel_rfl)
instance tz49 : TZ Try.prog 49 #[.nilFunc] := TZ.mk_ (by kernel_rfl)
instance tu50 : U Try.prog 50 (TypeDesc.func #[22, 3] #[] false) := ⟨Try.underlying50⟩
instance ti50 : TI Try.prog 50 false 1 8 := TI.mk_ Try.underlying50 rfl (by kernel_rfl)
instance tz50 : TZ Try.prog 50 #[.nilFunc] := TZ.mk_ (by kernel_rfl)
instance tu51 : U Try.prog 51 (TypeDesc.func #[22, 43] #[] false) := ⟨Try.underlying51⟩
instance ti51 : TI Try.prog 51 false 1 8 := TI.mk_ Try.underlying51 rfl (by kernel_rfl)
instance tz51 : TZ Try.prog 51 #[.nilFunc] := TZ.mk_ (by kernel_rfl)
instance tu52 : U Try.prog 52 (TypeDesc.func #[53, 53] #[3] false) := ⟨Try.underlying52⟩
instance ti52 : TI Try.prog 52 false 1 8 := TI.mk_ Try.underlying52 rfl (by kernel_rfl)
instance tz52 : TZ Try.prog 52 #[.nilFunc] := TZ.mk_ (by kernel_rfl)
instance tu53 : U Try.prog 53 (TypeDesc.slice 5) := ⟨Try.underlying53⟩
instance ti53 : TI Try.prog 53 false 1 24 := TI.mk_ Try.underlying53 rfl (by kernel_rfl)
instance tz53 : TZ Try.prog 53 #[.slice none 0 0] := TZ.mk_ (by kernel_rfl)
instance tu54 : U Try.prog 54 (TypeDesc.int IntKind.u64) := ⟨Try.underlying54⟩
instance ti54 : TI Try.prog 54 false 1 8 := TI.mk_ Try.underlying54 rfl (by kernel_rfl)
instance tz54 : TZ Try.prog 54 #[.int .u64 0] := TZ.mk_ (by kernel_rfl)
instance tu55 : U Try.prog 55 (TypeDesc.func #[22, 3, 43] #[] false) := ⟨Try.underlying55⟩
instance ti55 : TI Try.prog 55 false 1 8 := TI.mk_ Try.underlying55 rfl (by kernel_rfl)
instance tz55 : TZ Try.prog 55 #[.nilFunc] := TZ.mk_ (by kernel_rfl)
instance tu56 : U Try.prog 56 (TypeDesc.func #[22] #[] false) := ⟨Try.underlying56⟩
instance ti56 : TI Try.prog 56 false 1 8 := TI.mk_ Try.underlying56 rfl (by kernel_rfl)
instance tz56 : TZ Try.prog 56 #[.nilFunc] := TZ.mk_ (by kernel_rfl)
instance tu57 : U Try.prog 57 (TypeDesc.func #[22, 3, 3, 43] #[] false) := ⟨Try.underlying57⟩
instance ti57 : TI Try.prog 57 false 1 8 := TI.mk_ Try.underlying57 rfl (by kernel_rfl)
instance tz57 : TZ Try.prog 57 #[.nilFunc] := TZ.mk_ (by kernel_rfl)
instance tu58 : U Try.prog 58 (TypeDesc.func #[22, 3, 3, 3, 43] #[] false) := ⟨Try.underlying58⟩
instance ti58 : TI Try.prog 58 false 1 8 := TI.mk_ Try.underlying58 rfl (by kernel_rfl)
instance tz58 : TZ Try.prog 58 #[.nilFunc] := TZ.mk_ (by kernel_rfl)
instance tu59 : U Try.prog 59 (TypeDesc.func #[] #[9] false) := ⟨Try.underlying59⟩
instance ti59 : TI Try.prog 59 false 1 8 := TI.mk_ Try.underlying59 rfl (by kernel_rfl)
instance tz59 : TZ Try.prog 59 #[.nilFunc] := TZ.mk_ (by kernel_rfl)
instance tu60 : U Try.prog 60 (TypeDesc.struct #[{ name := "_interface", type := 17, offset := 0, embedded := false, tag := "", pkgPath := "runtime", byteOffset := 0 }, { name := "concrete", type := 17, offset := 1, embedded := false, tag := "", pkgPath := "runtime", byteOffset := 8 }, { name := "asserted", type := 17, offset := 2, embedded := false, tag := "", pkgPath := "runtime", byteOffset := 16 }, { name := "missingMethod", type := 9, offset := 3, embedded := false, tag := "", pkgPath := "runtime", byteOffset := 24 }]) := ⟨Try.underlying60⟩
instance ti60 : TI Try.prog 60 true 4 40 := TI.mk_ Try.underlying60 rfl (by kernel_rfl)
instance tu61 : U Try.prog 61 (TypeDesc.struct #[{ name := "_interface", type := 17, offset := 0, embedded := false, tag := "", pkgPath := "runtime", byteOffset := 0 }, { name := "concrete", type := 17, offset := 1, embedded := false, tag := "", pkgPath := "runtime", byteOffset := 8 }, { name := "asserted", type := 17, offset := 2, embedded := false, tag := "", pkgPath := "runtime", byteOffset := 16 }, { name := "missingMethod", type := 9, offset := 3, embedded := false, tag := "", pkgPath := "runtime", byteOffset := 24 }]) := ⟨Try.underlying61⟩
instance ti61 : TI Try.prog 61 true 4 40 := TI.mk_ Try.underlying61 rfl (by kernel_rfl)
instance tu62 : U Try.prog 62 (TypeDesc.array 0 16) := ⟨Try.underlying62⟩
instance ti62 : TI Try.prog 62 true 0 0 := TI.mk_ Try.underlying62 rfl (by kernel_rfl)
instance tu63 : U Try.prog 63 (TypeDesc.struct #[{ name := "_", type := 62, offset := 0, embedded := false, tag := "", pkgPath := "runtime", byteOffset := 0 }]) := ⟨Try.underlying63⟩
instance ti63 : TI Try.prog 63 true 0 0 := TI.mk_ Try.underlying63 rfl (by kernel_rfl)
instance tu64 : U Try.prog 64 (TypeDesc.struct #[{ name := "_", type := 62, offset := 0, embedded := false, tag := "", pkgPath := "runtime", byteOffset := 0 }]) := ⟨Try.underlying64⟩
instance ti64 : TI Try.prog 64 true 0 0 := TI.mk_ Try.underlying64 rfl (by kernel_rfl)
instance tu65 : U Try.prog 65 (TypeDesc.func #[] #[3] false) := ⟨Try.underlying65⟩
instance ti65 : TI Try.prog 65 false 1 8 := TI.mk_ Try.underlying65 rfl (by kernel_rfl)
instance tz65 : TZ Try.prog 65 #[.nilFunc] := TZ.mk_ (by kernel_rfl)
instance tu66 : U Try.prog 66 (TypeDesc.int IntKind.u32) := ⟨Try.underlying66⟩
instance ti66 : TI Try.prog 66 false 1 4 := TI.mk_ Try.underlying66 rfl (by kernel_rfl)
instance tz66 : TZ Try.prog 66 #[.int .u32 0] := TZ.mk_ (by kernel_rfl)
instance tu67 : U Try.prog 67 (TypeDesc.int IntKind.u8) := ⟨Try.underlying67⟩
instance ti67 : TI Try.prog 67 false 1 1 := TI.mk_ Try.underlying67 rfl (by kernel_rfl)
instance tz67 : TZ Try.prog 67 #[.int .u8 0] := TZ.mk_ (by kernel_rfl)
instance tu68 : U Try.prog 68 (TypeDesc.int IntKind.u8) := ⟨Try.underlying68⟩
instance ti68 : TI Try.prog 68 false 1 1 := TI.mk_ Try.underlying68 rfl (by kernel_rfl)
instance tz68 : TZ Try.prog 68 #[.int .u8 0] := TZ.mk_ (by kernel_rfl)
instance tu69 : U Try.prog 69 (TypeDesc.func #[75, 75] #[4] false) := ⟨Try.underlying69⟩
instance ti69 : TI Try.prog 69 false 1 8 := TI.mk_ Try.underlying69 rfl (by kernel_rfl)
instance tz69 : TZ Try.prog 69 #[.nilFunc] := TZ.mk_ (by kernel_rfl)
instance tu70 : U Try.prog 70 (TypeDesc.pointer 5) := ⟨Try.underlying70⟩
instance ti70 : TI Try.prog 70 false 1 8 := TI.mk_ Try.underlying70 rfl (by kernel_rfl)
instance tz70 : TZ Try.prog 70 #[.pointer none] := TZ.mk_ (by kernel_rfl)
instance tu71 : U Try.prog 71 (TypeDesc.int IntKind.i32) := ⟨Try.underlying71⟩
instance ti71 : TI Try.prog 71 false 1 4 := TI.mk_ Try.underlying71 rfl (by kernel_rfl)
instance tz71 : TZ Try.prog 71 #[.int .i32 0] := TZ.mk_ (by kernel_rfl)
instance tu72 : U Try.prog 72 (TypeDesc.int IntKind.i32) := ⟨Try.underlying72⟩
instance ti72 : TI Try.prog 72 false 1 4 := TI.mk_ Try.underlying72 rfl (by kernel_rfl)
instance tz72 : TZ Try.prog 72 #[.int .i32 0] := TZ.mk_ (by kernel_rfl)
instance tu73 : U Try.prog 73 (TypeDesc.struct #[{ name := "Size_", type := 12, offset := 0, embedded := false, tag := "", pkgPath := "", byteOffset := 0 }, { name := "PtrBytes", type := 12, offset := 1, embedded := false, tag := "", pkgPath := "", byteOffset := 8 }, { name := "Hash", type := 66, offset := 2, embedded := false, tag := "", pkgPath := "", byteOffset := 16 }, { name := "TFlag", type := 67, offset := 3, embedded := false, tag := "", pkgPath := "", byteOffset := 20 }, { name := "Align_", type := 5, offset := 4, embedded := false, tag := "", pkgPath := "", byteOffset := 21 }, { name := "FieldAlign_", type := 5, offset := 5, embedded := false, tag := "", pkgPath := "", byteOffset := 22 }, { name := "Kind_", type := 68, offset := 6, embedded := false, tag := "", pkgPath := "", byteOffset := 23 }, { name := "Equal", type := 69, offset := 7, embedded := false, tag := "", pkgPath := "", byteOffset := 24 }, { name := "GCData", type := 70, offset := 8, embedded := false, tag := "", pkgPath := "", byteOffset := 32 }, { name := "Str", type := 71, offset := 9, embedded := false, tag := "", pkgPath := "", byteOffset := 40 }, { name := "PtrToThis", type := 72, offset := 10, embedded := false, tag := "", pkgPath := "", byteOffset := 44 }]) := ⟨Try.underlying73⟩
instance ti73 : TI Try.prog 73 true 11 48 := TI.mk_ Try.underlying73 rfl (by kernel_rfl)
instance tu74 : U Try.prog 74 (TypeDesc.struct #[{ name := "Size_", type := 12, offset := 0, embedded := false, tag := "", pkgPath := "", byteOffset := 0 }, { name := "PtrBytes", type := 12, offset := 1, embedded := false, tag := "", pkgPath := "", byteOffset := 8 }, { name := "Hash", type := 66, offset := 2, embedded := false, tag := "", pkgPath := "", byteOffset := 16 }, { name := "TFlag", type := 67, offset := 3, embedded := false, tag := "", pkgPath := "", byteOffset := 20 }, { name := "Align_", type := 5, offset := 4, embedded := false, tag := "", pkgPath := "", byteOffset := 21 }, { name := "FieldAlign_", type := 5, offset := 5, embedded := false, tag := "", pkgPath := "", byteOffset := 22 }, { name := "Kind_", type := 68, offset := 6, embedded := false, tag := "", pkgPath := "", byteOffset := 23 }, { name := "Equal", type := 69, offset := 7, embedded := false, tag := "", pkgPath := "", byteOffset := 24 }, { name := "GCData", type := 70, offset := 8, embedded := false, tag := "", pkgPath := "", byteOffset := 32 }, { name := "Str", type := 71, offset := 9, embedded := false, tag := "", pkgPath := "", byteOffset := 40 }, { name := "PtrToThis", type := 72, offset := 10, embedded := false, tag := "", pkgPath := "", byteOffset := 44 }]) := ⟨Try.underlying74⟩
instance ti74 : TI Try.prog 74 true 11 48 := TI.mk_ Try.underlying74 rfl (by kernel_rfl)
instance tu75 : U Try.prog 75 (TypeDesc.unsafePointer) := ⟨Try.underlying75⟩
instance ti75 : TI Try.prog 75 false 1 8 := TI.mk_ Try.underlying75 rfl (by kernel_rfl)
instance fn2 : Fnc Try.prog 2 := Fnc.mk_ Try.func2 (by kernel_rfl) rfl
instance fn3 : Fnc Try.prog 3 := Fnc.mk_ Try.func3 (by kernel_rfl) rfl
instance fn4 : Fnc Try.prog 4 := Fnc.mk_ Try.func4 (by kernel_rfl) rfl
instance fn5 : Fnc Try.prog 5 := Fnc.mk_ Try.func5 (by kernel_rfl) rfl
instance fn6 : Fnc Try.prog 6 := Fnc.mk_ Try.func6 (by kernel_rfl) rfl
instance fn7 : Fnc Try.prog 7 := Fnc.mk_ Try.func7 (by kernel_rfl) rfl
instance fn8 : Fnc Try.prog 8 := Fnc.mk_ Try.func8 (by kernel_rfl) rfl
instance fn9 : Fnc Try.prog 9 := Fnc.mk_ Try.func9 (by kernel_rfl) rfl
instance fn10 : Fnc Try.prog 10 := Fnc.mk_ Try.func10 (by kernel_rfl) rfl
instance fn11 : Fnc Try.prog 11 := Fnc.mk_ Try.func11 (by kernel_rfl) rfl
instance fn12 : Fnc Try.prog 12 := Fnc.mk_ Try.func12 (by kernel_rfl) rfl
instance fn13 : Fnc Try.prog 13 := Fnc.mk_ Try.func13 (by kernel_rfl) rfl
instance fn14 : Fnc Try.prog 14 := Fnc.mk_ Try.func14 (by kernel_rfl) rfl
instance fn15 : Fnc Try.prog 15 := Fnc.mk_ Try.func15 (by kernel_rfl) rfl
instance fn16 : Fnc Try.prog 16 := Fnc.mk_ Try.func16 (by kernel_rfl) rfl
instance fn17 : Fnc Try.prog 17 := Fnc.mk_ Try.func17 (by kernel_rfl) rfl
instance fn18 : Fnc Try.prog 18 := Fnc.mk_ Try.func18 (by kernel_rfl) rfl
instance fn19 : Fnc Try.prog 19 := Fnc.mk_ Try.func19 (by kernel_rfl) rfl
instance fn20 : Fnc Try.prog 20 := Fnc.mk_ Try.func20 (by kernel_rfl) rfl
instance fn21 : Fnc Try.prog 21 := Fnc.mk_ Try.func21 (by kernel_rfl) rfl
instance fn22 : Fnc Try.prog 22 := Fnc.mk_ Try.func22 (by kernel_rfl) rfl
instance fn23 : Fnc Try.prog 23 := Fnc.mk_ Try.func23 (by kernel_rfl) rfl
instance fn24 : Fnc Try.prog 24 := Fnc.mk_ Try.func24 (by kernel_rfl) rfl
instance fn25 : Fnc Try.prog 25 := Fnc.mk_ Try.func25 (by kernel_rfl) rfl
instance fn26 : Fnc Try.prog 26 := Fnc.mk_ Try.func26 (by kernel_rfl) rfl
instance fn27 : Fnc Try.prog 27 := Fnc.mk_ Try.func27 (by kernel_rfl) rfl
instance fn28 : Fnc Try.prog 28 := Fnc.mk_ Try.func28 (by kernel_rfl) rfl
instance fn29 : Fnc Try.prog 29 := Fnc.mk_ Try.func29 (by kernel_rfl) rfl
instance fn30 : Fnc Try.prog 30 := Fnc.mk_ Try.func30 (by kernel_rfl) rfl
instance fn31 : Fnc Try.prog 31 := Fnc.mk_ Try.func31 (by kernel_rfl) rfl
instance fn32 : Fnc Try.prog 32 := Fnc.mk_ Try.func32 (by kernel_rfl) rfl
instance fn33 : Fnc Try.prog 33 := Fnc.mk_ Try.func33 (by kernel_rfl) rfl
instance fn34 : Fnc Try.prog 34 := Fnc.mk_ Try.func34 (by kernel_rfl) rfl
instance fn35 : Fnc Try.prog 35 := Fnc.mk_ Try.func35 (by kernel_rfl) rfl
instance fn36 : Fnc Try.prog 36 := Fnc.mk_ Try.func36 (by kernel_rfl) rfl
instance fn37 : Fnc Try.prog 37 := Fnc.mk_ Try.func37 (by kernel_rfl) rfl
instance fn38 : Fnc Try.prog 38 := Fnc.mk_ Try.func38 (by kernel_rfl) rfl
instance fn39 : Fnc Try.prog 39 := Fnc.mk_ Try.func39 (by kernel_rfl) rfl
instance fn40 : Fnc Try.prog 40 := Fnc.mk_ Try.func40 (by kernel_rfl) rfl
instance fn42 : Fnc Try.prog 42 := Fnc.mk_ Try.func42 (by kernel_rfl) rfl
instance fn43 : Fnc Try.prog 43 := Fnc.mk_ Try.func43 (by kernel_rfl) rfl
instance fn44 : Fnc Try.prog 44 := Fnc.mk_ Try.func44 (by kernel_rfl) rfl
instance fn45 : Fnc Try.prog 45 := Fnc.mk_ Try.func45 (by kernel_rfl) rfl
instance fn46 : Fnc Try.prog 46 := Fnc.mk_ Try.func46 (by kernel_rfl) rfl
instance fn48 : Fnc Try.prog 48 := Fnc.mk_ Try.func48 (by kernel_rfl) rfl
instance fn49 : Fnc Try.prog 49 := Fnc.mk_ Try.func49 (by kernel_rfl) rfl
instance fn50 : Fnc Try.prog 50 := Fnc.mk_ Try.func50 (by kernel_rfl) rfl
instance fn51 : Fnc Try.prog 51 := Fnc.mk_ Try.func51 (by kernel_rfl) rfl
instance fn52 : Fnc Try.prog 52 := Fnc.mk_ Try.func52 (by kernel_rfl) rfl
end Go.Proofs.Ytlcpjfeomlegpaa
