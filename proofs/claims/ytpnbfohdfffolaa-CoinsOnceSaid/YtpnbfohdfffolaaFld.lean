/- Made by gen_typ.py: where the fields of structs lie, and the zeros of structs. No condition. -/
import Derived.Test.YtpnbfohdfffolaaSg
set_option linter.all false
set_option maxRecDepth 100000
namespace Go.Proofs.Ytpnbfohdfffolaa
open Go Go.RowKit
instance fo13_0 : FO Try.prog 13 0 0 9 := FO.mk_ tu13.h rfl rfl rfl
instance fo13_1 : FO Try.prog 13 1 1 12 := FO.mk_ tu13.h rfl rfl rfl
instance al13 : AllTI Try.prog 13 := AllTI.mk_ tu13.h (by simp only [List.forall_mem_cons]; exact ⟨⟨_, fun w => ti9.run_sizeOf w⟩, ⟨_, fun w => ti12.run_sizeOf w⟩, by simp⟩)
instance tz13 : TZ Try.prog 13 (cats [#[.string .empty], #[.int .u64 0]]) := TZ.mk_ (by kernel_rfl)
instance fo25_0 : FO Try.prog 25 0 0 2 := FO.mk_ tu25.h rfl rfl rfl
instance fo25_1 : FO Try.prog 25 1 1 23 := FO.mk_ tu25.h rfl rfl rfl
instance al25 : AllTI Try.prog 25 := AllTI.mk_ tu25.h (by simp only [List.forall_mem_cons]; exact ⟨⟨_, fun w => ti2.run_sizeOf w⟩, ⟨_, fun w => ti23.run_sizeOf w⟩, by simp⟩)
instance tz25 : TZ Try.prog 25 (cats [#[.int .i64 0], kc key0]) := TZ.mk_ (by kernel_rfl)
instance fo26_0 : FO Try.prog 26 0 0 2 := FO.mk_ tu26.h rfl rfl rfl
instance fo26_1 : FO Try.prog 26 1 1 23 := FO.mk_ tu26.h rfl rfl rfl
instance al26 : AllTI Try.prog 26 := AllTI.mk_ tu26.h (by simp only [List.forall_mem_cons]; exact ⟨⟨_, fun w => ti2.run_sizeOf w⟩, ⟨_, fun w => ti23.run_sizeOf w⟩, by simp⟩)
instance tz26 : TZ Try.prog 26 (cats [#[.int .i64 0], kc key0]) := TZ.mk_ (by kernel_rfl)
instance fo31_0 : FO Try.prog 31 0 0 28 := FO.mk_ tu31.h rfl rfl rfl
instance fo31_1 : FO Try.prog 31 1 1 29 := FO.mk_ tu31.h rfl rfl rfl
instance fo31_2 : FO Try.prog 31 2 2 27 := FO.mk_ tu31.h rfl rfl rfl
instance fo31_3 : FO Try.prog 31 3 3 23 := FO.mk_ tu31.h rfl rfl rfl
instance fo31_4 : FO Try.prog 31 4 35 30 := FO.mk_ tu31.h rfl rfl rfl
instance fo31_5 : FO Try.prog 31 5 36 30 := FO.mk_ tu31.h rfl rfl rfl
instance fo31_6 : FO Try.prog 31 6 37 2 := FO.mk_ tu31.h rfl rfl rfl
instance al31 : AllTI Try.prog 31 := AllTI.mk_ tu31.h (by simp only [List.forall_mem_cons]; exact ⟨⟨_, fun w => ti28.run_sizeOf w⟩, ⟨_, fun w => ti29.run_sizeOf w⟩, ⟨_, fun w => ti27.run_sizeOf w⟩, ⟨_, fun w => ti23.run_sizeOf w⟩, ⟨_, fun w => ti30.run_sizeOf w⟩, ⟨_, fun w => ti30.run_sizeOf w⟩, ⟨_, fun w => ti2.run_sizeOf w⟩, by simp⟩)
instance tz31 : TZ Try.prog 31 (cats [#[.int .u32 0], #[.slice none 0 0], #[.slice none 0 0], kc key0, #[.slice none 0 0], #[.slice none 0 0], #[.int .i64 0]]) := TZ.mk_ (by kernel_rfl)
instance fo32_0 : FO Try.prog 32 0 0 28 := FO.mk_ tu32.h rfl rfl rfl
instance fo32_1 : FO Try.prog 32 1 1 29 := FO.mk_ tu32.h rfl rfl rfl
instance fo32_2 : FO Try.prog 32 2 2 27 := FO.mk_ tu32.h rfl rfl rfl
instance fo32_3 : FO Try.prog 32 3 3 23 := FO.mk_ tu32.h rfl rfl rfl
instance fo32_4 : FO Try.prog 32 4 35 30 := FO.mk_ tu32.h rfl rfl rfl
instance fo32_5 : FO Try.prog 32 5 36 30 := FO.mk_ tu32.h rfl rfl rfl
instance fo32_6 : FO Try.prog 32 6 37 2 := FO.mk_ tu32.h rfl rfl rfl
instance al32 : AllTI Try.prog 32 := AllTI.mk_ tu32.h (by simp only [List.forall_mem_cons]; exact ⟨⟨_, fun w => ti28.run_sizeOf w⟩, ⟨_, fun w => ti29.run_sizeOf w⟩, ⟨_, fun w => ti27.run_sizeOf w⟩, ⟨_, fun w => ti23.run_sizeOf w⟩, ⟨_, fun w => ti30.run_sizeOf w⟩, ⟨_, fun w => ti30.run_sizeOf w⟩, ⟨_, fun w => ti2.run_sizeOf w⟩, by simp⟩)
instance tz32 : TZ Try.prog 32 (cats [#[.int .u32 0], #[.slice none 0 0], #[.slice none 0 0], kc key0, #[.slice none 0 0], #[.slice none 0 0], #[.int .i64 0]]) := TZ.mk_ (by kernel_rfl)
instance fo33_0 : FO Try.prog 33 0 0 23 := FO.mk_ tu33.h rfl rfl rfl
instance fo33_1 : FO Try.prog 33 1 32 28 := FO.mk_ tu33.h rfl rfl rfl
instance al33 : AllTI Try.prog 33 := AllTI.mk_ tu33.h (by simp only [List.forall_mem_cons]; exact ⟨⟨_, fun w => ti23.run_sizeOf w⟩, ⟨_, fun w => ti28.run_sizeOf w⟩, by simp⟩)
instance tz33 : TZ Try.prog 33 (cats [kc key0, #[.int .u32 0]]) := TZ.mk_ (by kernel_rfl)
instance fo34_0 : FO Try.prog 34 0 0 23 := FO.mk_ tu34.h rfl rfl rfl
instance fo34_1 : FO Try.prog 34 1 32 28 := FO.mk_ tu34.h rfl rfl rfl
instance al34 : AllTI Try.prog 34 := AllTI.mk_ tu34.h (by simp only [List.forall_mem_cons]; exact ⟨⟨_, fun w => ti23.run_sizeOf w⟩, ⟨_, fun w => ti28.run_sizeOf w⟩, by simp⟩)
instance tz34 : TZ Try.prog 34 (cats [kc key0, #[.int .u32 0]]) := TZ.mk_ (by kernel_rfl)
instance fo39_0 : FO Try.prog 39 0 0 34 := FO.mk_ tu39.h rfl rfl rfl
instance fo39_1 : FO Try.prog 39 1 33 26 := FO.mk_ tu39.h rfl rfl rfl
instance fo39_2 : FO Try.prog 39 2 66 28 := FO.mk_ tu39.h rfl rfl rfl
instance fo39_3 : FO Try.prog 39 3 67 4 := FO.mk_ tu39.h rfl rfl rfl
instance al39 : AllTI Try.prog 39 := AllTI.mk_ tu39.h (by simp only [List.forall_mem_cons]; exact ⟨⟨_, fun w => ti34.run_sizeOf w⟩, ⟨_, fun w => ti26.run_sizeOf w⟩, ⟨_, fun w => ti28.run_sizeOf w⟩, ⟨_, fun w => ti4.run_sizeOf w⟩, by simp⟩)
instance tz39 : TZ Try.prog 39 (cats [kc key0, #[.int .u32 0], #[.int .i64 0], kc key0, #[.int .u32 0], #[.bool false]]) := TZ.mk_ (by kernel_rfl)
instance fo40_0 : FO Try.prog 40 0 0 34 := FO.mk_ tu40.h rfl rfl rfl
instance fo40_1 : FO Try.prog 40 1 33 26 := FO.mk_ tu40.h rfl rfl rfl
instance fo40_2 : FO Try.prog 40 2 66 28 := FO.mk_ tu40.h rfl rfl rfl
instance fo40_3 : FO Try.prog 40 3 67 4 := FO.mk_ tu40.h rfl rfl rfl
instance al40 : AllTI Try.prog 40 := AllTI.mk_ tu40.h (by simp only [List.forall_mem_cons]; exact ⟨⟨_, fun w => ti34.run_sizeOf w⟩, ⟨_, fun w => ti26.run_sizeOf w⟩, ⟨_, fun w => ti28.run_sizeOf w⟩, ⟨_, fun w => ti4.run_sizeOf w⟩, by simp⟩)
instance tz40 : TZ Try.prog 40 (cats [kc key0, #[.int .u32 0], #[.int .i64 0], kc key0, #[.int .u32 0], #[.bool false]]) := TZ.mk_ (by kernel_rfl)
instance fo65_0 : FO Try.prog 65 0 0 34 := FO.mk_ tu65.h rfl rfl rfl
instance fo65_1 : FO Try.prog 65 1 33 26 := FO.mk_ tu65.h rfl rfl rfl
instance fo65_2 : FO Try.prog 65 2 66 28 := FO.mk_ tu65.h rfl rfl rfl
instance fo65_3 : FO Try.prog 65 3 67 4 := FO.mk_ tu65.h rfl rfl rfl
instance al65 : AllTI Try.prog 65 := AllTI.mk_ tu65.h (by simp only [List.forall_mem_cons]; exact ⟨⟨_, fun w => ti34.run_sizeOf w⟩, ⟨_, fun w => ti26.run_sizeOf w⟩, ⟨_, fun w => ti28.run_sizeOf w⟩, ⟨_, fun w => ti4.run_sizeOf w⟩, by simp⟩)
instance tz65 : TZ Try.prog 65 (cats [kc key0, #[.int .u32 0], #[.int .i64 0], kc key0, #[.int .u32 0], #[.bool false]]) := TZ.mk_ (by kernel_rfl)
instance fo77_0 : FO Try.prog 77 0 0 35 := FO.mk_ tu77.h rfl rfl rfl
instance al77 : AllTI Try.prog 77 := AllTI.mk_ tu77.h (by simp only [List.forall_mem_cons]; exact ⟨⟨_, fun w => ti35.run_sizeOf w⟩, by simp⟩)
instance tz77 : TZ Try.prog 77 (cats [#[.slice none 0 0]]) := TZ.mk_ (by kernel_rfl)
instance fo78_0 : FO Try.prog 78 0 0 35 := FO.mk_ tu78.h rfl rfl rfl
instance al78 : AllTI Try.prog 78 := AllTI.mk_ tu78.h (by simp only [List.forall_mem_cons]; exact ⟨⟨_, fun w => ti35.run_sizeOf w⟩, by simp⟩)
instance tz78 : TZ Try.prog 78 (cats [#[.slice none 0 0]]) := TZ.mk_ (by kernel_rfl)
end Go.Proofs.Ytpnbfohdfffolaa
