/- strings.Builder, by contract: a block of the call's own, and the row of its bytes. No condition. -/
import Derived.Test.YthdhnkgnbdociaaSd
import Derived.Lib.Builder
set_option linter.all false
set_option maxHeartbeats 40000000
set_option synthInstance.maxHeartbeats 2000000
set_option synthInstance.maxSize 100000
namespace Go.Proofs.Ythdhnkgnbdociaa
open Go Go.RowKit
instance BV.noneT {α : Type} : BV (Option.isNone (none : Option α)) true := ⟨rfl⟩
instance BV.noneF {α : Type} {a : α} : BV (Option.isNone (some a)) false := ⟨rfl⟩
/-- how long a text is -/
class LenX (s : Bs) (m : outParam Nat) : Prop where
  eq : s.length = m
instance (priority := low) LenX.self {s : Bs} : LenX s s.length := ⟨rfl⟩
instance lenX_leB {w n : Nat} : LenX (leB w n) w := ⟨leB_len w n⟩
instance (priority := high) lenX_le1 {n : Nat} : LenX (leB 1 n) 1 := ⟨leB_len 1 n⟩
instance (priority := high) lenX_le2 {n : Nat} : LenX (leB 2 n) 2 := ⟨leB_len 2 n⟩
instance (priority := high) lenX_le4 {n : Nat} : LenX (leB 4 n) 4 := ⟨leB_len 4 n⟩
instance (priority := high) lenX_le8 {n : Nat} : LenX (leB 8 n) 8 := ⟨leB_len 8 n⟩
instance LenX.key {k : Key} : LenX k.toList 32 := ⟨by simp⟩
/-- a builder's pointer: to nothing, or to itself -/
class SelfP (p : Option Addr) (b : Nat) : Prop where
  h : p = none ∨ p = some ⟨b, 0, none⟩
instance SelfP.none_ {b : Nat} : SelfP none b := ⟨.inl rfl⟩
instance SelfP.self {b : Nat} : SelfP (some ⟨b, 0, none⟩) b := ⟨.inr rfl⟩
instance lies_bld : Lies Try.prog 66 66 2 := ⟨by kernel_rfl⟩
abbrev bldC (p : Option Addr) (A : Option Addr) (n c : Nat) : Array Value := cats [#[.pointer p], #[.slice A n c]]
section
variable {σ : St} {b n c : Nat} {p A : Option Addr} {l : Bs}
instance ext_noEscape {v : Value} : ExtRule Try.prog 68 [v] σ v := ⟨by
  rw [run_callFunc_extern Try.func68 (by kernel_rfl) (by kernel_rfl) (by kernel_rfl) (e := Extern.AbiNoEscape.same) (by kernel_rfl)]
  simp [Lib.run_noEscape]⟩
instance rule_copyCheck [sp : SelfP p b] [o : Own σ b 66 (cats [#[.pointer p], #[.slice A n c]])] :
    CallRule Try.prog 59 [.pointer (some ⟨b, 0, none⟩)] σ (fun K _ => ∀ σ', Nx σ σ' (.one b 66) → Own σ' b 66 (cats [#[.pointer (some ⟨b, 0, none⟩)], #[.slice A n c]]) → K (.tuple #[]) σ') := ⟨fun K E hK => by
  rcases sp.h with e | e
  · subst e
    refine calls_enter Try.func59 rfl _ Try.ntmps59 rfl ?_
    (repeat (first | refine go ?_ | refine goR ?_ | refine goS (fun yc hyc => ?_) | refine goL (fun _ _ => inferInstance) ?_ | with_reducible intro _ | refine goO (by first | omega | (simp only [List.length_cons, List.length_nil]; omega)) ?_ | fail))
    exact resN Try.results59 (hK _ (Sx.nx inferInstance) inferInstance)
  · subst e
    refine calls_enter Try.func59 rfl _ Try.ntmps59 rfl ?_
    (repeat (first | refine go ?_ | refine goR ?_ | refine goS (fun yc hyc => ?_) | refine goL (fun _ _ => inferInstance) ?_ | with_reducible intro _ | refine goO (by first | omega | (simp only [List.length_cons, List.length_nil]; omega)) ?_ | fail))
    exact resN Try.results59 (hK _ (Sx.nx inferInstance) inferInstance)⟩
instance rule_WriteString {v : Value} {s : Bs} [sp : SelfP p b] [o : Own σ b 66 (cats [#[.pointer p], #[.slice A n c]])] [s1 : StrV v s] {m : Nat} [lx : LenX s m] [r : RowQ σ A n c 5 u8E l] :
    CallRule Try.prog 32 [.pointer (some ⟨b, 0, none⟩), v] σ (fun K _ => (n + m ≤ 140737488355328) ∧ ∀ σ' A' c', Nx σ σ' (.un (.one b 66) (.row A 5)) → RowNew σ A A' → Own σ' b 66 (cats [#[.pointer (some ⟨b, 0, none⟩)], #[.slice A' (n + m) c']]) → Row σ' A' (n + m) c' 5 u8E (l ++ s) → K (.tuple #[.int .i64 (m : Int), .nilIface]) σ') := ⟨fun K E hK => by
  obtain ⟨hn, hK⟩ := hK
  haveI := r.row
  have e1 := s1.eq; subst e1
  have e2 := lx.eq; subst e2
  refine calls_enter Try.func32 rfl _ Try.ntmps32 rfl ?_
  (repeat (first | refine go ?_ | refine goR ?_ | refine goS (fun yc hyc => ?_) | refine goL (fun _ _ => inferInstance) ?_ | with_reducible intro _ | refine goO (by first | omega | (simp only [List.length_cons, List.length_nil]; omega)) ?_ | fail))
  exact resN Try.results32 (hK _ _ _ (Sx.nx inferInstance) (Gr.rn inferInstance) inferInstance inferInstance)⟩
instance rule_String [ps : PosN n] [o : Own σ b 66 (cats [#[.pointer p], #[.slice A n c]])] [r : Row σ A n c 5 u8E l] :
    CallRule Try.prog 41 [.pointer (some ⟨b, 0, none⟩)] σ (fun K _ => ∀ σ', Nx σ σ' (.row A 5) → K (sv l) σ') := ⟨fun K E hK => by
  refine calls_enter Try.func41 rfl _ Try.ntmps41 rfl ?_
  (repeat (first | refine go ?_ | refine goR ?_ | refine goS (fun yc hyc => ?_) | refine goL (fun _ _ => inferInstance) ?_ | with_reducible intro _ | refine goO (by first | omega | (simp only [List.length_cons, List.length_nil]; omega)) ?_ | fail))
  refine WC.draw [10] (.p 0 (.l 1 (.l 2 (.l 3 (.p 5 (.l 6 (.l 7 (.l 8 (.l 9 (.h 4 (.h 10 (.p 11 .nil)))))))))))) mixed (by decide +kernel) ?_
  (repeat (first | refine go ?_ | refine goR ?_ | refine goS (fun yc hyc => ?_) | refine goL (fun _ _ => inferInstance) ?_ | with_reducible intro _ | refine goO (by first | omega | (simp only [List.length_cons, List.length_nil]; omega)) ?_ | fail))
  exact resN Try.results41 (hK _ (Sx.nx inferInstance))⟩
end
end Go.Proofs.Ythdhnkgnbdociaa
