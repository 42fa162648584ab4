/-
  No cell of these rows narrows 'for every input' (looked for: loops, veiled, ifaces, maps, wideKeys, modest, calm, conditions, laid).
  DERIVED. THE GIVEN ROWS OF THIS SEAT. 7 by the template 'for every input the law returns true; each argument reads behind the call as it read before'; 0 by the template 'total and deterministic' (their statements: YtlidbnmdhnfolaaTotals.lean).
  GIVEN WITH THE SEED: the statements are not yours to turn. If you find one false, say at which input.
  Laid BY PROGRAM, IN A SANDBOX (cutbox-rows.mjs): the forced cells as the released guide's own fill.sh prints them over the translation da9c9fc313ca3eca… (all of the seat's roots in one cut). By AI agents, Wed Nov 11 2026. No macro, syntax, notation, axiom, sorry.
-/
import Derived.Test.YtlidbnmdhnfolaaChecked
import GoSem.Claim
import GoSem.ClaimJoined
import GoSem.ClaimMapViews
import Derived.JoinedTies
import Derived.KernelRfl
namespace Go.Proofs.Ytlidbnmdhnfolaa
/- THE CELL 'sum', in the pinned program and in every row, IS THE sha256 OF THE DUMP (.gsa) THAT YtlidbnmdhnfolaaProg.lean LOADS. Nothing in Lean hashes anything: it is a label: what it is worth is what the hold of that sum in a sandbox is worth. -/
noncomputable def Try.pinned : Pinned := { name := "ytlidbnmdhnfolaa", sum := "da9c9fc313ca3ecada081b10e6a62b0b47d66e31efe30402f8280a8c2fbcf6da", checked := Try.checked }
namespace Rows
def none {H : Type} : Left H := { results := [], args := [] }

/-- 'thuriblelaw04.KeysOrder': WHATEVER THE INPUT: true; the input reads as it did. -/
def keysOrderSpec : ChangeSpec := { name := "keysOrder", fn := fun _ => fun
  | [d1, d2, d3] => { results := [.lit (.bool true)], args := [d1, d2, d3] }
  | _ => none }
def keysOrderRow : OpenClaim := { program := "ytlidbnmdhnfolaa", sum := "da9c9fc313ca3ecada081b10e6a62b0b47d66e31efe30402f8280a8c2fbcf6da", func := "thurible/thuriblelaw04.KeysOrder", spec := "keysOrder", inPlace := ["internal/bytealg.Compare"], unfollowed := true, recurses := true, plainKeys := false, apart := false }
def KeysOrderSaid : Prop := keysOrderRow.holds Try.pinned (OpenSpec.ofChange keysOrderSpec)

/-- ITS FALSE NEIGHBOUR: 'it returns false'. Refute it at one input. -/
def keysOrderWrong : ChangeSpec := { name := "keysOrder", fn := fun _ => fun
  | [d1, d2, d3] => { results := [.lit (.bool false)], args := [d1, d2, d3] }
  | _ => none }
def KeysOrderWrongFalsely : Prop := keysOrderRow.holds Try.pinned (OpenSpec.ofChange keysOrderWrong)

/-- 'thuriblelaw04.KeysFirst': WHATEVER THE INPUT: true; the input reads as it did. -/
def keysFirstSpec : ChangeSpec := { name := "keysFirst", fn := fun _ => fun
  | [d1, d2, d3, d4] => { results := [.lit (.bool true)], args := [d1, d2, d3, d4] }
  | _ => none }
def keysFirstRow : OpenClaim := { program := "ytlidbnmdhnfolaa", sum := "da9c9fc313ca3ecada081b10e6a62b0b47d66e31efe30402f8280a8c2fbcf6da", func := "thurible/thuriblelaw04.KeysFirst", spec := "keysFirst", inPlace := ["internal/bytealg.Compare"], unfollowed := true, recurses := true, plainKeys := false, apart := false }
def KeysFirstSaid : Prop := keysFirstRow.holds Try.pinned (OpenSpec.ofChange keysFirstSpec)

/-- ITS FALSE NEIGHBOUR: 'it returns false'. Refute it at one input. -/
def keysFirstWrong : ChangeSpec := { name := "keysFirst", fn := fun _ => fun
  | [d1, d2, d3, d4] => { results := [.lit (.bool false)], args := [d1, d2, d3, d4] }
  | _ => none }
def KeysFirstWrongFalsely : Prop := keysFirstRow.holds Try.pinned (OpenSpec.ofChange keysFirstWrong)

/-- 'thuriblelaw04.KeysSorts': WHATEVER THE INPUT: true; the input reads as it did. -/
def keysSortsSpec : ChangeSpec := { name := "keysSorts", fn := fun _ => fun
  | [d1, d2] => { results := [.lit (.bool true)], args := [d1, d2] }
  | _ => none }
def keysSortsRow : OpenClaim := { program := "ytlidbnmdhnfolaa", sum := "da9c9fc313ca3ecada081b10e6a62b0b47d66e31efe30402f8280a8c2fbcf6da", func := "thurible/thuriblelaw04.KeysSorts", spec := "keysSorts", inPlace := ["internal/bytealg.Compare"], unfollowed := true, recurses := true, plainKeys := false, apart := false }
def KeysSortsSaid : Prop := keysSortsRow.holds Try.pinned (OpenSpec.ofChange keysSortsSpec)

/-- ITS FALSE NEIGHBOUR: 'it returns false'. Refute it at one input. -/
def keysSortsWrong : ChangeSpec := { name := "keysSorts", fn := fun _ => fun
  | [d1, d2] => { results := [.lit (.bool false)], args := [d1, d2] }
  | _ => none }
def KeysSortsWrongFalsely : Prop := keysSortsRow.holds Try.pinned (OpenSpec.ofChange keysSortsWrong)

/-- 'thuriblelaw04.KeysMeets': WHATEVER THE INPUT: true; the input reads as it did. -/
def keysMeetsSpec : ChangeSpec := { name := "keysMeets", fn := fun _ => fun
  | [d1, d2, d3] => { results := [.lit (.bool true)], args := [d1, d2, d3] }
  | _ => none }
def keysMeetsRow : OpenClaim := { program := "ytlidbnmdhnfolaa", sum := "da9c9fc313ca3ecada081b10e6a62b0b47d66e31efe30402f8280a8c2fbcf6da", func := "thurible/thuriblelaw04.KeysMeets", spec := "keysMeets", inPlace := ["internal/bytealg.Compare"], unfollowed := true, recurses := true, plainKeys := false, apart := false }
def KeysMeetsSaid : Prop := keysMeetsRow.holds Try.pinned (OpenSpec.ofChange keysMeetsSpec)

/-- ITS FALSE NEIGHBOUR: 'it returns false'. Refute it at one input. -/
def keysMeetsWrong : ChangeSpec := { name := "keysMeets", fn := fun _ => fun
  | [d1, d2, d3] => { results := [.lit (.bool false)], args := [d1, d2, d3] }
  | _ => none }
def KeysMeetsWrongFalsely : Prop := keysMeetsRow.holds Try.pinned (OpenSpec.ofChange keysMeetsWrong)

/-- 'thuriblelaw04.KeysSets': WHATEVER THE INPUT: true; the input reads as it did. -/
def keysSetsSpec : ChangeSpec := { name := "keysSets", fn := fun _ => fun
  | [d1, d2] => { results := [.lit (.bool true)], args := [d1, d2] }
  | _ => none }
def keysSetsRow : OpenClaim := { program := "ytlidbnmdhnfolaa", sum := "da9c9fc313ca3ecada081b10e6a62b0b47d66e31efe30402f8280a8c2fbcf6da", func := "thurible/thuriblelaw04.KeysSets", spec := "keysSets", inPlace := ["internal/bytealg.Compare", "slices.overlaps[thurible/api.Key]"], unfollowed := true, recurses := true, plainKeys := false, apart := false }
def KeysSetsSaid : Prop := keysSetsRow.holds Try.pinned (OpenSpec.ofChange keysSetsSpec)

/-- ITS FALSE NEIGHBOUR: 'it returns false'. Refute it at one input. -/
def keysSetsWrong : ChangeSpec := { name := "keysSets", fn := fun _ => fun
  | [d1, d2] => { results := [.lit (.bool false)], args := [d1, d2] }
  | _ => none }
def KeysSetsWrongFalsely : Prop := keysSetsRow.holds Try.pinned (OpenSpec.ofChange keysSetsWrong)

/-- 'thuriblelaw04.KeysTwice': WHATEVER THE INPUT: true; the input reads as it did. -/
def keysTwiceSpec : ChangeSpec := { name := "keysTwice", fn := fun _ => fun
  | [d1, d2] => { results := [.lit (.bool true)], args := [d1, d2] }
  | _ => none }
def keysTwiceRow : OpenClaim := { program := "ytlidbnmdhnfolaa", sum := "da9c9fc313ca3ecada081b10e6a62b0b47d66e31efe30402f8280a8c2fbcf6da", func := "thurible/thuriblelaw04.KeysTwice", spec := "keysTwice", inPlace := ["internal/bytealg.Compare", "slices.overlaps[thurible/api.Key]"], unfollowed := true, recurses := true, plainKeys := false, apart := false }
def KeysTwiceSaid : Prop := keysTwiceRow.holds Try.pinned (OpenSpec.ofChange keysTwiceSpec)

/-- ITS FALSE NEIGHBOUR: 'it returns false'. Refute it at one input. -/
def keysTwiceWrong : ChangeSpec := { name := "keysTwice", fn := fun _ => fun
  | [d1, d2] => { results := [.lit (.bool false)], args := [d1, d2] }
  | _ => none }
def KeysTwiceWrongFalsely : Prop := keysTwiceRow.holds Try.pinned (OpenSpec.ofChange keysTwiceWrong)

/-- 'thuriblelaw04.KeysTells': WHATEVER THE INPUT: true; the input reads as it did. -/
def keysTellsSpec : ChangeSpec := { name := "keysTells", fn := fun _ => fun
  | [d1, d2, d3, d4] => { results := [.lit (.bool true)], args := [d1, d2, d3, d4] }
  | _ => none }
def keysTellsRow : OpenClaim := { program := "ytlidbnmdhnfolaa", sum := "da9c9fc313ca3ecada081b10e6a62b0b47d66e31efe30402f8280a8c2fbcf6da", func := "thurible/thuriblelaw04.KeysTells", spec := "keysTells", inPlace := ["internal/bytealg.Compare", "slices.overlaps[thurible/api.Key]"], unfollowed := true, recurses := true, plainKeys := false, apart := false }
def KeysTellsSaid : Prop := keysTellsRow.holds Try.pinned (OpenSpec.ofChange keysTellsSpec)

/-- ITS FALSE NEIGHBOUR: 'it returns false'. Refute it at one input. -/
def keysTellsWrong : ChangeSpec := { name := "keysTells", fn := fun _ => fun
  | [d1, d2, d3, d4] => { results := [.lit (.bool false)], args := [d1, d2, d3, d4] }
  | _ => none }
def KeysTellsWrongFalsely : Prop := keysTellsRow.holds Try.pinned (OpenSpec.ofChange keysTellsWrong)

/- THE SECOND FORM. 'bulk': how many values and letters a reading holds, each counted each time it is reached (what is shared counts as often as it is met; a slice's spare places count too). A statement '..UptoSaid' is the law's where the arguments, and the package variables that the reading takes, are together of bulk at most 1048576: NARROWER than '..Said'. Prove '..Said' where nothing that the law and all that it calls make is longer than what came in: it says more and counts as full. Else prove '..UptoSaid'. A law counts once. -/
mutual
def uptoBulk {H : Type} : DataW H → Nat
  | .lit (.string bytes) => bytes.length + 1
  | .lit _ => 1
  | .nil => 1
  | .ptr d => uptoBulk d + 1
  | .slice elems spare => uptoBulkAll elems + uptoBulkAll spare + 1
  | .agg parts => uptoBulkAll parts + 1
  | .iface _ d => uptoBulk d + 1
  | .map entries => uptoBulkEntries entries + 1
  | .held _ => 1
def uptoBulkAll {H : Type} : List (DataW H) → Nat
  | [] => 0
  | d :: r => uptoBulk d + uptoBulkAll r
def uptoBulkEntries {H : Type} : List (Lit × DataW H) → Nat
  | [] => 0
  | x :: r => uptoBulkEntry x + uptoBulkEntries r
def uptoBulkEntry {H : Type} : Lit × DataW H → Nat
  | (.string bytes, d) => bytes.length + uptoBulk d + 1
  | (_, d) => uptoBulk d + 1
 end
def uptoSmall : (H : Type) → List (DataW H) → Bool := fun _ ds => decide (uptoBulkAll ds ≤ 1048576)
def OpenSpec.upto (s : _root_.Go.ChangeSpec) : _root_.Go.OpenSpec := { _root_.Go.OpenSpec.ofChange s with cond := some uptoSmall }

/-- 'thuriblelaw04.KeysOrder', WHERE WHAT IT READS IS OF BULK AT MOST 1048576: true; the input reads as it did. -/
def keysOrderUptoRow : OpenClaim := { program := "ytlidbnmdhnfolaa", sum := "da9c9fc313ca3ecada081b10e6a62b0b47d66e31efe30402f8280a8c2fbcf6da", func := "thurible/thuriblelaw04.KeysOrder", spec := "keysOrder", inPlace := ["internal/bytealg.Compare"], unfollowed := true, recurses := true, plainKeys := false, apart := false, narrowed := true }
def KeysOrderUptoSaid : Prop := keysOrderUptoRow.holds Try.pinned (OpenSpec.upto keysOrderSpec)

/-- 'thuriblelaw04.KeysFirst', WHERE WHAT IT READS IS OF BULK AT MOST 1048576: true; the input reads as it did. -/
def keysFirstUptoRow : OpenClaim := { program := "ytlidbnmdhnfolaa", sum := "da9c9fc313ca3ecada081b10e6a62b0b47d66e31efe30402f8280a8c2fbcf6da", func := "thurible/thuriblelaw04.KeysFirst", spec := "keysFirst", inPlace := ["internal/bytealg.Compare"], unfollowed := true, recurses := true, plainKeys := false, apart := false, narrowed := true }
def KeysFirstUptoSaid : Prop := keysFirstUptoRow.holds Try.pinned (OpenSpec.upto keysFirstSpec)

/-- 'thuriblelaw04.KeysSorts', WHERE WHAT IT READS IS OF BULK AT MOST 1048576: true; the input reads as it did. -/
def keysSortsUptoRow : OpenClaim := { program := "ytlidbnmdhnfolaa", sum := "da9c9fc313ca3ecada081b10e6a62b0b47d66e31efe30402f8280a8c2fbcf6da", func := "thurible/thuriblelaw04.KeysSorts", spec := "keysSorts", inPlace := ["internal/bytealg.Compare"], unfollowed := true, recurses := true, plainKeys := false, apart := false, narrowed := true }
def KeysSortsUptoSaid : Prop := keysSortsUptoRow.holds Try.pinned (OpenSpec.upto keysSortsSpec)

/-- 'thuriblelaw04.KeysMeets', WHERE WHAT IT READS IS OF BULK AT MOST 1048576: true; the input reads as it did. -/
def keysMeetsUptoRow : OpenClaim := { program := "ytlidbnmdhnfolaa", sum := "da9c9fc313ca3ecada081b10e6a62b0b47d66e31efe30402f8280a8c2fbcf6da", func := "thurible/thuriblelaw04.KeysMeets", spec := "keysMeets", inPlace := ["internal/bytealg.Compare"], unfollowed := true, recurses := true, plainKeys := false, apart := false, narrowed := true }
def KeysMeetsUptoSaid : Prop := keysMeetsUptoRow.holds Try.pinned (OpenSpec.upto keysMeetsSpec)

/-- 'thuriblelaw04.KeysSets', WHERE WHAT IT READS IS OF BULK AT MOST 1048576: true; the input reads as it did. -/
def keysSetsUptoRow : OpenClaim := { program := "ytlidbnmdhnfolaa", sum := "da9c9fc313ca3ecada081b10e6a62b0b47d66e31efe30402f8280a8c2fbcf6da", func := "thurible/thuriblelaw04.KeysSets", spec := "keysSets", inPlace := ["internal/bytealg.Compare", "slices.overlaps[thurible/api.Key]"], unfollowed := true, recurses := true, plainKeys := false, apart := false, narrowed := true }
def KeysSetsUptoSaid : Prop := keysSetsUptoRow.holds Try.pinned (OpenSpec.upto keysSetsSpec)

/-- 'thuriblelaw04.KeysTwice', WHERE WHAT IT READS IS OF BULK AT MOST 1048576: true; the input reads as it did. -/
def keysTwiceUptoRow : OpenClaim := { program := "ytlidbnmdhnfolaa", sum := "da9c9fc313ca3ecada081b10e6a62b0b47d66e31efe30402f8280a8c2fbcf6da", func := "thurible/thuriblelaw04.KeysTwice", spec := "keysTwice", inPlace := ["internal/bytealg.Compare", "slices.overlaps[thurible/api.Key]"], unfollowed := true, recurses := true, plainKeys := false, apart := false, narrowed := true }
def KeysTwiceUptoSaid : Prop := keysTwiceUptoRow.holds Try.pinned (OpenSpec.upto keysTwiceSpec)

/-- 'thuriblelaw04.KeysTells', WHERE WHAT IT READS IS OF BULK AT MOST 1048576: true; the input reads as it did. -/
def keysTellsUptoRow : OpenClaim := { program := "ytlidbnmdhnfolaa", sum := "da9c9fc313ca3ecada081b10e6a62b0b47d66e31efe30402f8280a8c2fbcf6da", func := "thurible/thuriblelaw04.KeysTells", spec := "keysTells", inPlace := ["internal/bytealg.Compare", "slices.overlaps[thurible/api.Key]"], unfollowed := true, recurses := true, plainKeys := false, apart := false, narrowed := true }
def KeysTellsUptoSaid : Prop := keysTellsUptoRow.holds Try.pinned (OpenSpec.upto keysTellsSpec)

end Rows
end Go.Proofs.Ytlidbnmdhnfolaa
