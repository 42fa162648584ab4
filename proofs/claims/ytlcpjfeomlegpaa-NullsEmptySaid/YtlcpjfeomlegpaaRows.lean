/-
  No cell of these rows narrows 'for every input' (looked for: loops, veiled, ifaces, maps, wideKeys, modest, calm, conditions, laid).
  DERIVED. THE GIVEN ROWS OF THIS SEAT. 4 by the template 'for every input the law returns true; each argument reads behind the call as it read before'; 0 by the template 'total and deterministic' (their statements: YtlcpjfeomlegpaaTotals.lean).
  GIVEN WITH THE SEED: the statements are not yours to turn. If you find one false, say at which input.
  Laid BY PROGRAM, IN A SANDBOX (cutbox-rows.mjs): the forced cells as the released guide's own fill.sh prints them over the translation 7e2b662550dab5c4… (all of the seat's roots in one cut). By AI agents, Wed Nov 11 2026. No macro, syntax, notation, axiom, sorry.
-/
import Derived.Test.YtlcpjfeomlegpaaChecked
import GoSem.Claim
import GoSem.ClaimJoined
import GoSem.ClaimMapViews
import Derived.JoinedTies
import Derived.KernelRfl
namespace Go.Proofs.Ytlcpjfeomlegpaa
/- THE CELL 'sum', in the pinned program and in every row, IS THE sha256 OF THE DUMP (.gsa) THAT YtlcpjfeomlegpaaProg.lean LOADS. Nothing in Lean hashes anything: it is a label: what it is worth is what the hold of that sum in a sandbox is worth. -/
noncomputable def Try.pinned : Pinned := { name := "ytlcpjfeomlegpaa", sum := "7e2b662550dab5c48959df14f70774966c4913bffb69cea5763fe61868e4fd0e", checked := Try.checked }
namespace Rows
def none {H : Type} : Left H := { results := [], args := [] }

/-- 'thuriblelaw10.NullsTells': WHATEVER THE INPUT: true; the input reads as it did. -/
def nullsTellsSpec : ChangeSpec := { name := "nullsTells", fn := fun _ => fun
  | [d1, d2] => { results := [.lit (.bool true)], args := [d1, d2] }
  | _ => none }
def nullsTellsRow : OpenClaim := { program := "ytlcpjfeomlegpaa", sum := "7e2b662550dab5c48959df14f70774966c4913bffb69cea5763fe61868e4fd0e", func := "thurible/thuriblelaw10.NullsTells", spec := "nullsTells", inPlace := ["internal/bytealg.Compare", "slices.overlaps[thurible/api.Key]"], unfollowed := true, recurses := true, apart := false }
def NullsTellsSaid : Prop := nullsTellsRow.holds Try.pinned (OpenSpec.ofChange nullsTellsSpec)

/-- ITS FALSE NEIGHBOUR: 'it returns false'. Refute it at one input. -/
def nullsTellsWrong : ChangeSpec := { name := "nullsTells", fn := fun _ => fun
  | [d1, d2] => { results := [.lit (.bool false)], args := [d1, d2] }
  | _ => none }
def NullsTellsWrongFalsely : Prop := nullsTellsRow.holds Try.pinned (OpenSpec.ofChange nullsTellsWrong)

/-- 'thuriblelaw10.NullsBack': WHATEVER THE INPUT: true; the input reads as it did. -/
def nullsBackSpec : ChangeSpec := { name := "nullsBack", fn := fun _ => fun
  | [d1, d2, d3] => { results := [.lit (.bool true)], args := [d1, d2, d3] }
  | _ => none }
def nullsBackRow : OpenClaim := { program := "ytlcpjfeomlegpaa", sum := "7e2b662550dab5c48959df14f70774966c4913bffb69cea5763fe61868e4fd0e", func := "thurible/thuriblelaw10.NullsBack", spec := "nullsBack", inPlace := ["internal/bytealg.Compare", "slices.overlaps[thurible/api.Key]"], unfollowed := true, recurses := true, apart := false }
def NullsBackSaid : Prop := nullsBackRow.holds Try.pinned (OpenSpec.ofChange nullsBackSpec)

/-- ITS FALSE NEIGHBOUR: 'it returns false'. Refute it at one input. -/
def nullsBackWrong : ChangeSpec := { name := "nullsBack", fn := fun _ => fun
  | [d1, d2, d3] => { results := [.lit (.bool false)], args := [d1, d2, d3] }
  | _ => none }
def NullsBackWrongFalsely : Prop := nullsBackRow.holds Try.pinned (OpenSpec.ofChange nullsBackWrong)

/-- 'thuriblelaw10.NullsTwice': WHATEVER THE INPUT: true; the input reads as it did. -/
def nullsTwiceSpec : ChangeSpec := { name := "nullsTwice", fn := fun _ => fun
  | [d1, d2, d3] => { results := [.lit (.bool true)], args := [d1, d2, d3] }
  | _ => none }
def nullsTwiceRow : OpenClaim := { program := "ytlcpjfeomlegpaa", sum := "7e2b662550dab5c48959df14f70774966c4913bffb69cea5763fe61868e4fd0e", func := "thurible/thuriblelaw10.NullsTwice", spec := "nullsTwice", inPlace := ["internal/bytealg.Compare", "slices.overlaps[thurible/api.Key]"], unfollowed := true, recurses := true, apart := false }
def NullsTwiceSaid : Prop := nullsTwiceRow.holds Try.pinned (OpenSpec.ofChange nullsTwiceSpec)

/-- ITS FALSE NEIGHBOUR: 'it returns false'. Refute it at one input. -/
def nullsTwiceWrong : ChangeSpec := { name := "nullsTwice", fn := fun _ => fun
  | [d1, d2, d3] => { results := [.lit (.bool false)], args := [d1, d2, d3] }
  | _ => none }
def NullsTwiceWrongFalsely : Prop := nullsTwiceRow.holds Try.pinned (OpenSpec.ofChange nullsTwiceWrong)

/-- 'thuriblelaw10.NullsEmpty': WHATEVER THE INPUT: true; the input reads as it did. -/
def nullsEmptySpec : ChangeSpec := { name := "nullsEmpty", fn := fun _ => fun
  | [d1, d2] => { results := [.lit (.bool true)], args := [d1, d2] }
  | _ => none }
def nullsEmptyRow : OpenClaim := { program := "ytlcpjfeomlegpaa", sum := "7e2b662550dab5c48959df14f70774966c4913bffb69cea5763fe61868e4fd0e", func := "thurible/thuriblelaw10.NullsEmpty", spec := "nullsEmpty", inPlace := ["internal/bytealg.Compare", "slices.overlaps[thurible/api.Key]"], unfollowed := true, recurses := true, apart := false }
def NullsEmptySaid : Prop := nullsEmptyRow.holds Try.pinned (OpenSpec.ofChange nullsEmptySpec)

/-- ITS FALSE NEIGHBOUR: 'it returns false'. Refute it at one input. -/
def nullsEmptyWrong : ChangeSpec := { name := "nullsEmpty", fn := fun _ => fun
  | [d1, d2] => { results := [.lit (.bool false)], args := [d1, d2] }
  | _ => none }
def NullsEmptyWrongFalsely : Prop := nullsEmptyRow.holds Try.pinned (OpenSpec.ofChange nullsEmptyWrong)

/- THE SECOND FORM. 'bulk': how many values and letters a reading holds, each counted each time it is reached (what is shared counts as often as it is met; a slice's spare places count too). A statement '..UptoSaid' is the law's where the arguments, and the package variables that the reading takes, are together of bulk at most 1048576: NARROWER than '..Said'. Prove '..Said' where nothing that the law and all that it calls make is longer than what came in: it says more and counts as full. Else prove '..UptoSaid'. A law counts once. -/
mutual
def uptoBulk {H : Type} : DataW H → Nat
  | .lit (.string bytes) => bytes.length + 1
  | .lit _ => 1
  | .nil => 1
  | .ptr d => uptoBulk d + 1
  | .slice elems spare => uptoBulkAll elems + uptoBulkAll spare + 1
  | .agg parts => uptoBulkAll parts + 1
  | .iface _ d => uptoBulk d + 1
  | .map entries => uptoBulkEntries entries + 1
  | .held _ => 1
def uptoBulkAll {H : Type} : List (DataW H) → Nat
  | [] => 0
  | d :: r => uptoBulk d + uptoBulkAll r
def uptoBulkEntries {H : Type} : List (Lit × DataW H) → Nat
  | [] => 0
  | x :: r => uptoBulkEntry x + uptoBulkEntries r
def uptoBulkEntry {H : Type} : Lit × DataW H → Nat
  | (.string bytes, d) => bytes.length + uptoBulk d + 1
  | (_, d) => uptoBulk d + 1
 end
def uptoSmall : (H : Type) → List (DataW H) → Bool := fun _ ds => decide (uptoBulkAll ds ≤ 1048576)
def OpenSpec.upto (s : _root_.Go.ChangeSpec) : _root_.Go.OpenSpec := { _root_.Go.OpenSpec.ofChange s with cond := some uptoSmall }

/-- 'thuriblelaw10.NullsTells', WHERE WHAT IT READS IS OF BULK AT MOST 1048576: true; the input reads as it did. -/
def nullsTellsUptoRow : OpenClaim := { program := "ytlcpjfeomlegpaa", sum := "7e2b662550dab5c48959df14f70774966c4913bffb69cea5763fe61868e4fd0e", func := "thurible/thuriblelaw10.NullsTells", spec := "nullsTells", inPlace := ["internal/bytealg.Compare", "slices.overlaps[thurible/api.Key]"], unfollowed := true, recurses := true, apart := false, narrowed := true }
def NullsTellsUptoSaid : Prop := nullsTellsUptoRow.holds Try.pinned (OpenSpec.upto nullsTellsSpec)

/-- 'thuriblelaw10.NullsBack', WHERE WHAT IT READS IS OF BULK AT MOST 1048576: true; the input reads as it did. -/
def nullsBackUptoRow : OpenClaim := { program := "ytlcpjfeomlegpaa", sum := "7e2b662550dab5c48959df14f70774966c4913bffb69cea5763fe61868e4fd0e", func := "thurible/thuriblelaw10.NullsBack", spec := "nullsBack", inPlace := ["internal/bytealg.Compare", "slices.overlaps[thurible/api.Key]"], unfollowed := true, recurses := true, apart := false, narrowed := true }
def NullsBackUptoSaid : Prop := nullsBackUptoRow.holds Try.pinned (OpenSpec.upto nullsBackSpec)

/-- 'thuriblelaw10.NullsTwice', WHERE WHAT IT READS IS OF BULK AT MOST 1048576: true; the input reads as it did. -/
def nullsTwiceUptoRow : OpenClaim := { program := "ytlcpjfeomlegpaa", sum := "7e2b662550dab5c48959df14f70774966c4913bffb69cea5763fe61868e4fd0e", func := "thurible/thuriblelaw10.NullsTwice", spec := "nullsTwice", inPlace := ["internal/bytealg.Compare", "slices.overlaps[thurible/api.Key]"], unfollowed := true, recurses := true, apart := false, narrowed := true }
def NullsTwiceUptoSaid : Prop := nullsTwiceUptoRow.holds Try.pinned (OpenSpec.upto nullsTwiceSpec)

/-- 'thuriblelaw10.NullsEmpty', WHERE WHAT IT READS IS OF BULK AT MOST 1048576: true; the input reads as it did. -/
def nullsEmptyUptoRow : OpenClaim := { program := "ytlcpjfeomlegpaa", sum := "7e2b662550dab5c48959df14f70774966c4913bffb69cea5763fe61868e4fd0e", func := "thurible/thuriblelaw10.NullsEmpty", spec := "nullsEmpty", inPlace := ["internal/bytealg.Compare", "slices.overlaps[thurible/api.Key]"], unfollowed := true, recurses := true, apart := false, narrowed := true }
def NullsEmptyUptoSaid : Prop := nullsEmptyUptoRow.holds Try.pinned (OpenSpec.upto nullsEmptySpec)

end Rows
end Go.Proofs.Ytlcpjfeomlegpaa
