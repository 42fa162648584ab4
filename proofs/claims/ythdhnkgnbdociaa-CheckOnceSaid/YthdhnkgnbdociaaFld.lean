/- Made by gen_typ.py: where the fields of structs lie, and the zeros of structs. No condition. -/
import Derived.Test.YthdhnkgnbdociaaSg
set_option linter.all false
set_option maxRecDepth 100000
namespace Go.Proofs.Ythdhnkgnbdociaa
open Go Go.RowKit
instance fo13_0 : FO Try.prog 13 0 0 9 := FO.mk_ tu13.h rfl rfl rfl
instance fo13_1 : FO Try.prog 13 1 1 12 := FO.mk_ tu13.h rfl rfl rfl
instance al13 : AllTI Try.prog 13 := AllTI.mk_ tu13.h (by simp only [List.forall_mem_cons]; exact ⟨⟨_, fun w => ti9.run_sizeOf w⟩, ⟨_, fun w => ti12.run_sizeOf w⟩, by simp⟩)
instance tz13 : TZ Try.prog 13 (cats [#[.string .empty], #[.int .u64 0]]) := TZ.mk_ (by kernel_rfl)
instance fo28_0 : FO Try.prog 28 0 0 22 := FO.mk_ tu28.h rfl rfl rfl
instance fo28_1 : FO Try.prog 28 1 1 23 := FO.mk_ tu28.h rfl rfl rfl
instance fo28_2 : FO Try.prog 28 2 2 24 := FO.mk_ tu28.h rfl rfl rfl
instance fo28_3 : FO Try.prog 28 3 3 26 := FO.mk_ tu28.h rfl rfl rfl
instance fo28_4 : FO Try.prog 28 4 35 27 := FO.mk_ tu28.h rfl rfl rfl
instance fo28_5 : FO Try.prog 28 5 36 27 := FO.mk_ tu28.h rfl rfl rfl
instance fo28_6 : FO Try.prog 28 6 37 2 := FO.mk_ tu28.h rfl rfl rfl
instance al28 : AllTI Try.prog 28 := AllTI.mk_ tu28.h (by simp only [List.forall_mem_cons]; exact ⟨⟨_, fun w => ti22.run_sizeOf w⟩, ⟨_, fun w => ti23.run_sizeOf w⟩, ⟨_, fun w => ti24.run_sizeOf w⟩, ⟨_, fun w => ti26.run_sizeOf w⟩, ⟨_, fun w => ti27.run_sizeOf w⟩, ⟨_, fun w => ti27.run_sizeOf w⟩, ⟨_, fun w => ti2.run_sizeOf w⟩, by simp⟩)
instance tz28 : TZ Try.prog 28 (cats [#[.int .u32 0], #[.slice none 0 0], #[.slice none 0 0], kc key0, #[.slice none 0 0], #[.slice none 0 0], #[.int .i64 0]]) := TZ.mk_ (by kernel_rfl)
instance fo29_0 : FO Try.prog 29 0 0 22 := FO.mk_ tu29.h rfl rfl rfl
instance fo29_1 : FO Try.prog 29 1 1 23 := FO.mk_ tu29.h rfl rfl rfl
instance fo29_2 : FO Try.prog 29 2 2 24 := FO.mk_ tu29.h rfl rfl rfl
instance fo29_3 : FO Try.prog 29 3 3 26 := FO.mk_ tu29.h rfl rfl rfl
instance fo29_4 : FO Try.prog 29 4 35 27 := FO.mk_ tu29.h rfl rfl rfl
instance fo29_5 : FO Try.prog 29 5 36 27 := FO.mk_ tu29.h rfl rfl rfl
instance fo29_6 : FO Try.prog 29 6 37 2 := FO.mk_ tu29.h rfl rfl rfl
instance al29 : AllTI Try.prog 29 := AllTI.mk_ tu29.h (by simp only [List.forall_mem_cons]; exact ⟨⟨_, fun w => ti22.run_sizeOf w⟩, ⟨_, fun w => ti23.run_sizeOf w⟩, ⟨_, fun w => ti24.run_sizeOf w⟩, ⟨_, fun w => ti26.run_sizeOf w⟩, ⟨_, fun w => ti27.run_sizeOf w⟩, ⟨_, fun w => ti27.run_sizeOf w⟩, ⟨_, fun w => ti2.run_sizeOf w⟩, by simp⟩)
instance tz29 : TZ Try.prog 29 (cats [#[.int .u32 0], #[.slice none 0 0], #[.slice none 0 0], kc key0, #[.slice none 0 0], #[.slice none 0 0], #[.int .i64 0]]) := TZ.mk_ (by kernel_rfl)
instance fo34_0 : FO Try.prog 34 0 0 26 := FO.mk_ tu34.h rfl rfl rfl
instance fo34_1 : FO Try.prog 34 1 32 22 := FO.mk_ tu34.h rfl rfl rfl
instance al34 : AllTI Try.prog 34 := AllTI.mk_ tu34.h (by simp only [List.forall_mem_cons]; exact ⟨⟨_, fun w => ti26.run_sizeOf w⟩, ⟨_, fun w => ti22.run_sizeOf w⟩, by simp⟩)
instance tz34 : TZ Try.prog 34 (cats [kc key0, #[.int .u32 0]]) := TZ.mk_ (by kernel_rfl)
instance fo35_0 : FO Try.prog 35 0 0 26 := FO.mk_ tu35.h rfl rfl rfl
instance fo35_1 : FO Try.prog 35 1 32 22 := FO.mk_ tu35.h rfl rfl rfl
instance al35 : AllTI Try.prog 35 := AllTI.mk_ tu35.h (by simp only [List.forall_mem_cons]; exact ⟨⟨_, fun w => ti26.run_sizeOf w⟩, ⟨_, fun w => ti22.run_sizeOf w⟩, by simp⟩)
instance tz35 : TZ Try.prog 35 (cats [kc key0, #[.int .u32 0]]) := TZ.mk_ (by kernel_rfl)
instance fo39_0 : FO Try.prog 39 0 0 2 := FO.mk_ tu39.h rfl rfl rfl
instance fo39_1 : FO Try.prog 39 1 1 26 := FO.mk_ tu39.h rfl rfl rfl
instance al39 : AllTI Try.prog 39 := AllTI.mk_ tu39.h (by simp only [List.forall_mem_cons]; exact ⟨⟨_, fun w => ti2.run_sizeOf w⟩, ⟨_, fun w => ti26.run_sizeOf w⟩, by simp⟩)
instance tz39 : TZ Try.prog 39 (cats [#[.int .i64 0], kc key0]) := TZ.mk_ (by kernel_rfl)
instance fo40_0 : FO Try.prog 40 0 0 2 := FO.mk_ tu40.h rfl rfl rfl
instance fo40_1 : FO Try.prog 40 1 1 26 := FO.mk_ tu40.h rfl rfl rfl
instance al40 : AllTI Try.prog 40 := AllTI.mk_ tu40.h (by simp only [List.forall_mem_cons]; exact ⟨⟨_, fun w => ti2.run_sizeOf w⟩, ⟨_, fun w => ti26.run_sizeOf w⟩, by simp⟩)
instance tz40 : TZ Try.prog 40 (cats [#[.int .i64 0], kc key0]) := TZ.mk_ (by kernel_rfl)
instance fo53_0 : FO Try.prog 53 0 0 32 := FO.mk_ tu53.h rfl rfl rfl
instance fo53_1 : FO Try.prog 53 1 1 52 := FO.mk_ tu53.h rfl rfl rfl
instance al53 : AllTI Try.prog 53 := AllTI.mk_ tu53.h (by simp only [List.forall_mem_cons]; exact ⟨⟨_, fun w => ti32.run_sizeOf w⟩, ⟨_, fun w => ti52.run_sizeOf w⟩, by simp⟩)
instance tz53 : TZ Try.prog 53 (cats [#[.int .i64 0], #[.nilFunc]]) := TZ.mk_ (by kernel_rfl)
instance fo54_0 : FO Try.prog 54 0 0 32 := FO.mk_ tu54.h rfl rfl rfl
instance fo54_1 : FO Try.prog 54 1 1 52 := FO.mk_ tu54.h rfl rfl rfl
instance al54 : AllTI Try.prog 54 := AllTI.mk_ tu54.h (by simp only [List.forall_mem_cons]; exact ⟨⟨_, fun w => ti32.run_sizeOf w⟩, ⟨_, fun w => ti52.run_sizeOf w⟩, by simp⟩)
instance tz54 : TZ Try.prog 54 (cats [#[.int .i64 0], #[.nilFunc]]) := TZ.mk_ (by kernel_rfl)
instance fo65_0 : FO Try.prog 65 0 0 63 := FO.mk_ tu65.h rfl rfl rfl
instance fo65_1 : FO Try.prog 65 1 1 64 := FO.mk_ tu65.h rfl rfl rfl
instance al65 : AllTI Try.prog 65 := AllTI.mk_ tu65.h (by simp only [List.forall_mem_cons]; exact ⟨⟨_, fun w => ti63.run_sizeOf w⟩, ⟨_, fun w => ti64.run_sizeOf w⟩, by simp⟩)
instance tz65 : TZ Try.prog 65 (cats [#[.pointer none], #[.slice none 0 0]]) := TZ.mk_ (by kernel_rfl)
instance fo66_0 : FO Try.prog 66 0 0 63 := FO.mk_ tu66.h rfl rfl rfl
instance fo66_1 : FO Try.prog 66 1 1 64 := FO.mk_ tu66.h rfl rfl rfl
instance al66 : AllTI Try.prog 66 := AllTI.mk_ tu66.h (by simp only [List.forall_mem_cons]; exact ⟨⟨_, fun w => ti63.run_sizeOf w⟩, ⟨_, fun w => ti64.run_sizeOf w⟩, by simp⟩)
instance tz66 : TZ Try.prog 66 (cats [#[.pointer none], #[.slice none 0 0]]) := TZ.mk_ (by kernel_rfl)
end Go.Proofs.Ythdhnkgnbdociaa
