/-
  No cell of these rows narrows 'for every input' (looked for: loops, veiled, ifaces, maps, wideKeys, modest, calm, conditions, laid).
  DERIVED. THE GIVEN ROWS OF THIS SEAT. 6 by the template 'for every input the law returns true; each argument reads behind the call as it read before'; 0 by the template 'total and deterministic' (their statements: YthdhnkgnbdociaaTotals.lean).
  GIVEN WITH THE SEED: the statements are not yours to turn. If you find one false, say at which input.
  Laid BY PROGRAM, IN A SANDBOX (cutbox-rows.mjs): the forced cells as the released guide's own fill.sh prints them over the translation 75537648846bd497… (all of the seat's roots in one cut). By AI agents, Wed Nov 11 2026. No macro, syntax, notation, axiom, sorry.
-/
import Derived.Test.YthdhnkgnbdociaaChecked
import GoSem.Claim
import GoSem.ClaimJoined
import GoSem.ClaimMapViews
import Derived.JoinedTies
import Derived.KernelRfl
namespace Go.Proofs.Ythdhnkgnbdociaa
/- THE CELL 'sum', in the pinned program and in every row, IS THE sha256 OF THE DUMP (.gsa) THAT YthdhnkgnbdociaaProg.lean LOADS. Nothing in Lean hashes anything: it is a label: what it is worth is what the hold of that sum in a sandbox is worth. -/
noncomputable def Try.pinned : Pinned := { name := "ythdhnkgnbdociaa", sum := "75537648846bd497401a6227f4e79e1e771977748a5f6d70e7fc5a12b5543921", checked := Try.checked }
namespace Rows
def none {H : Type} : Left H := { results := [], args := [] }

/-- 'thuriblelaw11.CheckOnce': WHATEVER THE INPUT: true; the input reads as it did. -/
def checkOnceSpec : ChangeSpec := { name := "checkOnce", fn := fun _ => fun
  | [d1, d2] => { results := [.lit (.bool true)], args := [d1, d2] }
  | _ => none }
def checkOnceRow : OpenClaim := { program := "ythdhnkgnbdociaa", sum := "75537648846bd497401a6227f4e79e1e771977748a5f6d70e7fc5a12b5543921", func := "thurible/thuriblelaw11.CheckOnce", spec := "checkOnce", inPlace := ["internal/abi.NoEscape", "internal/bytealg.Compare"], unfollowed := true, recurses := true, plainKeys := false, apart := false }
def CheckOnceSaid : Prop := checkOnceRow.holds Try.pinned (OpenSpec.ofChange checkOnceSpec)

/-- ITS FALSE NEIGHBOUR: 'it returns false'. Refute it at one input. -/
def checkOnceWrong : ChangeSpec := { name := "checkOnce", fn := fun _ => fun
  | [d1, d2] => { results := [.lit (.bool false)], args := [d1, d2] }
  | _ => none }
def CheckOnceWrongFalsely : Prop := checkOnceRow.holds Try.pinned (OpenSpec.ofChange checkOnceWrong)

/-- 'thuriblelaw11.CheckSecret': WHATEVER THE INPUT: true; the input reads as it did. -/
def checkSecretSpec : ChangeSpec := { name := "checkSecret", fn := fun _ => fun
  | [d1, d2] => { results := [.lit (.bool true)], args := [d1, d2] }
  | _ => none }
def checkSecretRow : OpenClaim := { program := "ythdhnkgnbdociaa", sum := "75537648846bd497401a6227f4e79e1e771977748a5f6d70e7fc5a12b5543921", func := "thurible/thuriblelaw11.CheckSecret", spec := "checkSecret", inPlace := ["internal/abi.NoEscape", "internal/bytealg.Compare"], unfollowed := true, recurses := true, plainKeys := false, apart := false }
def CheckSecretSaid : Prop := checkSecretRow.holds Try.pinned (OpenSpec.ofChange checkSecretSpec)

/-- ITS FALSE NEIGHBOUR: 'it returns false'. Refute it at one input. -/
def checkSecretWrong : ChangeSpec := { name := "checkSecret", fn := fun _ => fun
  | [d1, d2] => { results := [.lit (.bool false)], args := [d1, d2] }
  | _ => none }
def CheckSecretWrongFalsely : Prop := checkSecretRow.holds Try.pinned (OpenSpec.ofChange checkSecretWrong)

/-- 'thuriblelaw11.CheckBase': WHATEVER THE INPUT: true; the input reads as it did. -/
def checkBaseSpec : ChangeSpec := { name := "checkBase", fn := fun _ => fun
  | [d1, d2, d3, d4] => { results := [.lit (.bool true)], args := [d1, d2, d3, d4] }
  | _ => none }
def checkBaseRow : OpenClaim := { program := "ythdhnkgnbdociaa", sum := "75537648846bd497401a6227f4e79e1e771977748a5f6d70e7fc5a12b5543921", func := "thurible/thuriblelaw11.CheckBase", spec := "checkBase", inPlace := ["internal/abi.NoEscape", "internal/bytealg.Compare"], unfollowed := true, recurses := true, plainKeys := false, apart := false }
def CheckBaseSaid : Prop := checkBaseRow.holds Try.pinned (OpenSpec.ofChange checkBaseSpec)

/-- ITS FALSE NEIGHBOUR: 'it returns false'. Refute it at one input. -/
def checkBaseWrong : ChangeSpec := { name := "checkBase", fn := fun _ => fun
  | [d1, d2, d3, d4] => { results := [.lit (.bool false)], args := [d1, d2, d3, d4] }
  | _ => none }
def CheckBaseWrongFalsely : Prop := checkBaseRow.holds Try.pinned (OpenSpec.ofChange checkBaseWrong)

/-- 'thuriblelaw11.CheckMany': WHATEVER THE INPUT: true; the input reads as it did. -/
def checkManySpec : ChangeSpec := { name := "checkMany", fn := fun _ => fun
  | [d1, d2, d3] => { results := [.lit (.bool true)], args := [d1, d2, d3] }
  | _ => none }
def checkManyRow : OpenClaim := { program := "ythdhnkgnbdociaa", sum := "75537648846bd497401a6227f4e79e1e771977748a5f6d70e7fc5a12b5543921", func := "thurible/thuriblelaw11.CheckMany", spec := "checkMany", inPlace := ["internal/abi.NoEscape", "internal/bytealg.Compare"], unfollowed := true, recurses := true, plainKeys := false, apart := false }
def CheckManySaid : Prop := checkManyRow.holds Try.pinned (OpenSpec.ofChange checkManySpec)

/-- ITS FALSE NEIGHBOUR: 'it returns false'. Refute it at one input. -/
def checkManyWrong : ChangeSpec := { name := "checkMany", fn := fun _ => fun
  | [d1, d2, d3] => { results := [.lit (.bool false)], args := [d1, d2, d3] }
  | _ => none }
def CheckManyWrongFalsely : Prop := checkManyRow.holds Try.pinned (OpenSpec.ofChange checkManyWrong)

/-- 'thuriblelaw11.CheckTells': WHATEVER THE INPUT: true; the input reads as it did. -/
def checkTellsSpec : ChangeSpec := { name := "checkTells", fn := fun _ => fun
  | [d1, d2, d3] => { results := [.lit (.bool true)], args := [d1, d2, d3] }
  | _ => none }
def checkTellsRow : OpenClaim := { program := "ythdhnkgnbdociaa", sum := "75537648846bd497401a6227f4e79e1e771977748a5f6d70e7fc5a12b5543921", func := "thurible/thuriblelaw11.CheckTells", spec := "checkTells", inPlace := ["internal/abi.NoEscape", "internal/bytealg.Compare"], unfollowed := true, recurses := true, plainKeys := false, apart := false }
def CheckTellsSaid : Prop := checkTellsRow.holds Try.pinned (OpenSpec.ofChange checkTellsSpec)

/-- ITS FALSE NEIGHBOUR: 'it returns false'. Refute it at one input. -/
def checkTellsWrong : ChangeSpec := { name := "checkTells", fn := fun _ => fun
  | [d1, d2, d3] => { results := [.lit (.bool false)], args := [d1, d2, d3] }
  | _ => none }
def CheckTellsWrongFalsely : Prop := checkTellsRow.holds Try.pinned (OpenSpec.ofChange checkTellsWrong)

/-- 'thuriblelaw11.CheckFights': WHATEVER THE INPUT: true; the input reads as it did. -/
def checkFightsSpec : ChangeSpec := { name := "checkFights", fn := fun _ => fun
  | [d1, d2] => { results := [.lit (.bool true)], args := [d1, d2] }
  | _ => none }
def checkFightsRow : OpenClaim := { program := "ythdhnkgnbdociaa", sum := "75537648846bd497401a6227f4e79e1e771977748a5f6d70e7fc5a12b5543921", func := "thurible/thuriblelaw11.CheckFights", spec := "checkFights", inPlace := ["internal/abi.NoEscape", "internal/bytealg.Compare"], unfollowed := true, recurses := true, plainKeys := false, apart := false }
def CheckFightsSaid : Prop := checkFightsRow.holds Try.pinned (OpenSpec.ofChange checkFightsSpec)

/-- ITS FALSE NEIGHBOUR: 'it returns false'. Refute it at one input. -/
def checkFightsWrong : ChangeSpec := { name := "checkFights", fn := fun _ => fun
  | [d1, d2] => { results := [.lit (.bool false)], args := [d1, d2] }
  | _ => none }
def CheckFightsWrongFalsely : Prop := checkFightsRow.holds Try.pinned (OpenSpec.ofChange checkFightsWrong)

/- THE SECOND FORM. 'bulk': how many values and letters a reading holds, each counted each time it is reached (what is shared counts as often as it is met; a slice's spare places count too). A statement '..UptoSaid' is the law's where the arguments, and the package variables that the reading takes, are together of bulk at most 1048576: NARROWER than '..Said'. Prove '..Said' where nothing that the law and all that it calls make is longer than what came in: it says more and counts as full. Else prove '..UptoSaid'. A law counts once. -/
mutual
def uptoBulk {H : Type} : DataW H → Nat
  | .lit (.string bytes) => bytes.length + 1
  | .lit _ => 1
  | .nil => 1
  | .ptr d => uptoBulk d + 1
  | .slice elems spare => uptoBulkAll elems + uptoBulkAll spare + 1
  | .agg parts => uptoBulkAll parts + 1
  | .iface _ d => uptoBulk d + 1
  | .map entries => uptoBulkEntries entries + 1
  | .held _ => 1
def uptoBulkAll {H : Type} : List (DataW H) → Nat
  | [] => 0
  | d :: r => uptoBulk d + uptoBulkAll r
def uptoBulkEntries {H : Type} : List (Lit × DataW H) → Nat
  | [] => 0
  | x :: r => uptoBulkEntry x + uptoBulkEntries r
def uptoBulkEntry {H : Type} : Lit × DataW H → Nat
  | (.string bytes, d) => bytes.length + uptoBulk d + 1
  | (_, d) => uptoBulk d + 1
 end
def uptoSmall : (H : Type) → List (DataW H) → Bool := fun _ ds => decide (uptoBulkAll ds ≤ 1048576)
def OpenSpec.upto (s : _root_.Go.ChangeSpec) : _root_.Go.OpenSpec := { _root_.Go.OpenSpec.ofChange s with cond := some uptoSmall }

/-- 'thuriblelaw11.CheckOnce', WHERE WHAT IT READS IS OF BULK AT MOST 1048576: true; the input reads as it did. -/
def checkOnceUptoRow : OpenClaim := { program := "ythdhnkgnbdociaa", sum := "75537648846bd497401a6227f4e79e1e771977748a5f6d70e7fc5a12b5543921", func := "thurible/thuriblelaw11.CheckOnce", spec := "checkOnce", inPlace := ["internal/abi.NoEscape", "internal/bytealg.Compare"], unfollowed := true, recurses := true, plainKeys := false, apart := false, narrowed := true }
def CheckOnceUptoSaid : Prop := checkOnceUptoRow.holds Try.pinned (OpenSpec.upto checkOnceSpec)

/-- 'thuriblelaw11.CheckSecret', WHERE WHAT IT READS IS OF BULK AT MOST 1048576: true; the input reads as it did. -/
def checkSecretUptoRow : OpenClaim := { program := "ythdhnkgnbdociaa", sum := "75537648846bd497401a6227f4e79e1e771977748a5f6d70e7fc5a12b5543921", func := "thurible/thuriblelaw11.CheckSecret", spec := "checkSecret", inPlace := ["internal/abi.NoEscape", "internal/bytealg.Compare"], unfollowed := true, recurses := true, plainKeys := false, apart := false, narrowed := true }
def CheckSecretUptoSaid : Prop := checkSecretUptoRow.holds Try.pinned (OpenSpec.upto checkSecretSpec)

/-- 'thuriblelaw11.CheckBase', WHERE WHAT IT READS IS OF BULK AT MOST 1048576: true; the input reads as it did. -/
def checkBaseUptoRow : OpenClaim := { program := "ythdhnkgnbdociaa", sum := "75537648846bd497401a6227f4e79e1e771977748a5f6d70e7fc5a12b5543921", func := "thurible/thuriblelaw11.CheckBase", spec := "checkBase", inPlace := ["internal/abi.NoEscape", "internal/bytealg.Compare"], unfollowed := true, recurses := true, plainKeys := false, apart := false, narrowed := true }
def CheckBaseUptoSaid : Prop := checkBaseUptoRow.holds Try.pinned (OpenSpec.upto checkBaseSpec)

/-- 'thuriblelaw11.CheckMany', WHERE WHAT IT READS IS OF BULK AT MOST 1048576: true; the input reads as it did. -/
def checkManyUptoRow : OpenClaim := { program := "ythdhnkgnbdociaa", sum := "75537648846bd497401a6227f4e79e1e771977748a5f6d70e7fc5a12b5543921", func := "thurible/thuriblelaw11.CheckMany", spec := "checkMany", inPlace := ["internal/abi.NoEscape", "internal/bytealg.Compare"], unfollowed := true, recurses := true, plainKeys := false, apart := false, narrowed := true }
def CheckManyUptoSaid : Prop := checkManyUptoRow.holds Try.pinned (OpenSpec.upto checkManySpec)

/-- 'thuriblelaw11.CheckTells', WHERE WHAT IT READS IS OF BULK AT MOST 1048576: true; the input reads as it did. -/
def checkTellsUptoRow : OpenClaim := { program := "ythdhnkgnbdociaa", sum := "75537648846bd497401a6227f4e79e1e771977748a5f6d70e7fc5a12b5543921", func := "thurible/thuriblelaw11.CheckTells", spec := "checkTells", inPlace := ["internal/abi.NoEscape", "internal/bytealg.Compare"], unfollowed := true, recurses := true, plainKeys := false, apart := false, narrowed := true }
def CheckTellsUptoSaid : Prop := checkTellsUptoRow.holds Try.pinned (OpenSpec.upto checkTellsSpec)

/-- 'thuriblelaw11.CheckFights', WHERE WHAT IT READS IS OF BULK AT MOST 1048576: true; the input reads as it did. -/
def checkFightsUptoRow : OpenClaim := { program := "ythdhnkgnbdociaa", sum := "75537648846bd497401a6227f4e79e1e771977748a5f6d70e7fc5a12b5543921", func := "thurible/thuriblelaw11.CheckFights", spec := "checkFights", inPlace := ["internal/abi.NoEscape", "internal/bytealg.Compare"], unfollowed := true, recurses := true, plainKeys := false, apart := false, narrowed := true }
def CheckFightsUptoSaid : Prop := checkFightsUptoRow.holds Try.pinned (OpenSpec.upto checkFightsSpec)

end Rows
end Go.Proofs.Ythdhnkgnbdociaa
