/-
  No cell of these rows narrows 'for every input' (looked for: loops, veiled, ifaces, maps, wideKeys, modest, calm, conditions, laid).
  DERIVED. THE GIVEN ROWS OF THIS SEAT. 6 by the template 'for every input the law returns true; each argument reads behind the call as it read before'; 0 by the template 'total and deterministic' (their statements: YtpnbfohdfffolaaTotals.lean).
  GIVEN WITH THE SEED: the statements are not yours to turn. If you find one false, say at which input.
  Laid BY PROGRAM, IN A SANDBOX (cutbox-rows.mjs): the forced cells as the released guide's own fill.sh prints them over the translation a22b15979a01bf21… (all of the seat's roots in one cut). By AI agents, Wed Nov 11 2026. No macro, syntax, notation, axiom, sorry.
-/
import Derived.Test.YtpnbfohdfffolaaChecked
import GoSem.Claim
import GoSem.ClaimJoined
import GoSem.ClaimMapViews
import Derived.JoinedTies
import Derived.KernelRfl
namespace Go.Proofs.Ytpnbfohdfffolaa
/- THE CELL 'sum', in the pinned program and in every row, IS THE sha256 OF THE DUMP (.gsa) THAT YtpnbfohdfffolaaProg.lean LOADS. Nothing in Lean hashes anything: it is a label: what it is worth is what the hold of that sum in a sandbox is worth. -/
noncomputable def Try.pinned : Pinned := { name := "ytpnbfohdfffolaa", sum := "a22b15979a01bf2107bc5cae29115bd91ece662a10398cac3e956141996e5828", checked := Try.checked }
namespace Rows
def none {H : Type} : Left H := { results := [], args := [] }

/-- 'thuriblelaw09.CoinsRipe': WHATEVER THE INPUT: true; the input reads as it did. -/
def coinsRipeSpec : ChangeSpec := { name := "coinsRipe", fn := fun _ => fun
  | [d1, d2, d3, d4, d5] => { results := [.lit (.bool true)], args := [d1, d2, d3, d4, d5] }
  | _ => none }
def coinsRipeRow : OpenClaim := { program := "ytpnbfohdfffolaa", sum := "a22b15979a01bf2107bc5cae29115bd91ece662a10398cac3e956141996e5828", func := "thurible/thuriblelaw09.CoinsRipe", spec := "coinsRipe", inPlace := ["internal/bytealg.Compare", "slices.overlaps[thurible/coins.Coin]"], unfollowed := true, recurses := true, apart := false }
def CoinsRipeSaid : Prop := coinsRipeRow.holds Try.pinned (OpenSpec.ofChange coinsRipeSpec)

/-- ITS FALSE NEIGHBOUR: 'it returns false'. Refute it at one input. -/
def coinsRipeWrong : ChangeSpec := { name := "coinsRipe", fn := fun _ => fun
  | [d1, d2, d3, d4, d5] => { results := [.lit (.bool false)], args := [d1, d2, d3, d4, d5] }
  | _ => none }
def CoinsRipeWrongFalsely : Prop := coinsRipeRow.holds Try.pinned (OpenSpec.ofChange coinsRipeWrong)

/-- 'thuriblelaw09.CoinsOrder': WHATEVER THE INPUT: true; the input reads as it did. -/
def coinsOrderSpec : ChangeSpec := { name := "coinsOrder", fn := fun _ => fun
  | [d1, d2, d3] => { results := [.lit (.bool true)], args := [d1, d2, d3] }
  | _ => none }
def coinsOrderRow : OpenClaim := { program := "ytpnbfohdfffolaa", sum := "a22b15979a01bf2107bc5cae29115bd91ece662a10398cac3e956141996e5828", func := "thurible/thuriblelaw09.CoinsOrder", spec := "coinsOrder", inPlace := ["internal/bytealg.Compare", "slices.overlaps[thurible/coins.Coin]"], unfollowed := true, recurses := true, apart := false }
def CoinsOrderSaid : Prop := coinsOrderRow.holds Try.pinned (OpenSpec.ofChange coinsOrderSpec)

/-- ITS FALSE NEIGHBOUR: 'it returns false'. Refute it at one input. -/
def coinsOrderWrong : ChangeSpec := { name := "coinsOrder", fn := fun _ => fun
  | [d1, d2, d3] => { results := [.lit (.bool false)], args := [d1, d2, d3] }
  | _ => none }
def CoinsOrderWrongFalsely : Prop := coinsOrderRow.holds Try.pinned (OpenSpec.ofChange coinsOrderWrong)

/-- 'thuriblelaw09.CoinsOnce': WHATEVER THE INPUT: true; the input reads as it did. -/
def coinsOnceSpec : ChangeSpec := { name := "coinsOnce", fn := fun _ => fun
  | [d1, d2, d3, d4] => { results := [.lit (.bool true)], args := [d1, d2, d3, d4] }
  | _ => none }
def coinsOnceRow : OpenClaim := { program := "ytpnbfohdfffolaa", sum := "a22b15979a01bf2107bc5cae29115bd91ece662a10398cac3e956141996e5828", func := "thurible/thuriblelaw09.CoinsOnce", spec := "coinsOnce", inPlace := ["internal/bytealg.Compare", "slices.overlaps[thurible/coins.Coin]"], unfollowed := true, recurses := true, apart := false }
def CoinsOnceSaid : Prop := coinsOnceRow.holds Try.pinned (OpenSpec.ofChange coinsOnceSpec)

/-- ITS FALSE NEIGHBOUR: 'it returns false'. Refute it at one input. -/
def coinsOnceWrong : ChangeSpec := { name := "coinsOnce", fn := fun _ => fun
  | [d1, d2, d3, d4] => { results := [.lit (.bool false)], args := [d1, d2, d3, d4] }
  | _ => none }
def CoinsOnceWrongFalsely : Prop := coinsOnceRow.holds Try.pinned (OpenSpec.ofChange coinsOnceWrong)

/-- 'thuriblelaw09.CoinsKept': WHATEVER THE INPUT: true; the input reads as it did. -/
def coinsKeptSpec : ChangeSpec := { name := "coinsKept", fn := fun _ => fun
  | [d1, d2, d3, d4, d5] => { results := [.lit (.bool true)], args := [d1, d2, d3, d4, d5] }
  | _ => none }
def coinsKeptRow : OpenClaim := { program := "ytpnbfohdfffolaa", sum := "a22b15979a01bf2107bc5cae29115bd91ece662a10398cac3e956141996e5828", func := "thurible/thuriblelaw09.CoinsKept", spec := "coinsKept", inPlace := ["internal/bytealg.Compare", "slices.overlaps[thurible/coins.Coin]"], unfollowed := true, recurses := true, apart := false }
def CoinsKeptSaid : Prop := coinsKeptRow.holds Try.pinned (OpenSpec.ofChange coinsKeptSpec)

/-- ITS FALSE NEIGHBOUR: 'it returns false'. Refute it at one input. -/
def coinsKeptWrong : ChangeSpec := { name := "coinsKept", fn := fun _ => fun
  | [d1, d2, d3, d4, d5] => { results := [.lit (.bool false)], args := [d1, d2, d3, d4, d5] }
  | _ => none }
def CoinsKeptWrongFalsely : Prop := coinsKeptRow.holds Try.pinned (OpenSpec.ofChange coinsKeptWrong)

/-- 'thuriblelaw09.CoinsBack': WHATEVER THE INPUT: true; the input reads as it did. -/
def coinsBackSpec : ChangeSpec := { name := "coinsBack", fn := fun _ => fun
  | [d1, d2, d3] => { results := [.lit (.bool true)], args := [d1, d2, d3] }
  | _ => none }
def coinsBackRow : OpenClaim := { program := "ytpnbfohdfffolaa", sum := "a22b15979a01bf2107bc5cae29115bd91ece662a10398cac3e956141996e5828", func := "thurible/thuriblelaw09.CoinsBack", spec := "coinsBack", inPlace := ["internal/bytealg.Compare", "slices.overlaps[thurible/coins.Coin]"], unfollowed := true, recurses := true, apart := false }
def CoinsBackSaid : Prop := coinsBackRow.holds Try.pinned (OpenSpec.ofChange coinsBackSpec)

/-- ITS FALSE NEIGHBOUR: 'it returns false'. Refute it at one input. -/
def coinsBackWrong : ChangeSpec := { name := "coinsBack", fn := fun _ => fun
  | [d1, d2, d3] => { results := [.lit (.bool false)], args := [d1, d2, d3] }
  | _ => none }
def CoinsBackWrongFalsely : Prop := coinsBackRow.holds Try.pinned (OpenSpec.ofChange coinsBackWrong)

/-- 'thuriblelaw09.CoinsTells': WHATEVER THE INPUT: true; the input reads as it did. -/
def coinsTellsSpec : ChangeSpec := { name := "coinsTells", fn := fun _ => fun
  | [d1, d2, d3, d4, d5, d6, d7] => { results := [.lit (.bool true)], args := [d1, d2, d3, d4, d5, d6, d7] }
  | _ => none }
def coinsTellsRow : OpenClaim := { program := "ytpnbfohdfffolaa", sum := "a22b15979a01bf2107bc5cae29115bd91ece662a10398cac3e956141996e5828", func := "thurible/thuriblelaw09.CoinsTells", spec := "coinsTells", inPlace := ["internal/bytealg.Compare", "slices.overlaps[thurible/coins.Coin]"], unfollowed := true, recurses := true, apart := false }
def CoinsTellsSaid : Prop := coinsTellsRow.holds Try.pinned (OpenSpec.ofChange coinsTellsSpec)

/-- ITS FALSE NEIGHBOUR: 'it returns false'. Refute it at one input. -/
def coinsTellsWrong : ChangeSpec := { name := "coinsTells", fn := fun _ => fun
  | [d1, d2, d3, d4, d5, d6, d7] => { results := [.lit (.bool false)], args := [d1, d2, d3, d4, d5, d6, d7] }
  | _ => none }
def CoinsTellsWrongFalsely : Prop := coinsTellsRow.holds Try.pinned (OpenSpec.ofChange coinsTellsWrong)

/- THE SECOND FORM. 'bulk': how many values and letters a reading holds, each counted each time it is reached (what is shared counts as often as it is met; a slice's spare places count too). A statement '..UptoSaid' is the law's where the arguments, and the package variables that the reading takes, are together of bulk at most 1048576: NARROWER than '..Said'. Prove '..Said' where nothing that the law and all that it calls make is longer than what came in: it says more and counts as full. Else prove '..UptoSaid'. A law counts once. -/
mutual
def uptoBulk {H : Type} : DataW H → Nat
  | .lit (.string bytes) => bytes.length + 1
  | .lit _ => 1
  | .nil => 1
  | .ptr d => uptoBulk d + 1
  | .slice elems spare => uptoBulkAll elems + uptoBulkAll spare + 1
  | .agg parts => uptoBulkAll parts + 1
  | .iface _ d => uptoBulk d + 1
  | .map entries => uptoBulkEntries entries + 1
  | .held _ => 1
def uptoBulkAll {H : Type} : List (DataW H) → Nat
  | [] => 0
  | d :: r => uptoBulk d + uptoBulkAll r
def uptoBulkEntries {H : Type} : List (Lit × DataW H) → Nat
  | [] => 0
  | x :: r => uptoBulkEntry x + uptoBulkEntries r
def uptoBulkEntry {H : Type} : Lit × DataW H → Nat
  | (.string bytes, d) => bytes.length + uptoBulk d + 1
  | (_, d) => uptoBulk d + 1
 end
def uptoSmall : (H : Type) → List (DataW H) → Bool := fun _ ds => decide (uptoBulkAll ds ≤ 1048576)
def OpenSpec.upto (s : _root_.Go.ChangeSpec) : _root_.Go.OpenSpec := { _root_.Go.OpenSpec.ofChange s with cond := some uptoSmall }

/-- 'thuriblelaw09.CoinsRipe', WHERE WHAT IT READS IS OF BULK AT MOST 1048576: true; the input reads as it did. -/
def coinsRipeUptoRow : OpenClaim := { program := "ytpnbfohdfffolaa", sum := "a22b15979a01bf2107bc5cae29115bd91ece662a10398cac3e956141996e5828", func := "thurible/thuriblelaw09.CoinsRipe", spec := "coinsRipe", inPlace := ["internal/bytealg.Compare", "slices.overlaps[thurible/coins.Coin]"], unfollowed := true, recurses := true, apart := false, narrowed := true }
def CoinsRipeUptoSaid : Prop := coinsRipeUptoRow.holds Try.pinned (OpenSpec.upto coinsRipeSpec)

/-- 'thuriblelaw09.CoinsOrder', WHERE WHAT IT READS IS OF BULK AT MOST 1048576: true; the input reads as it did. -/
def coinsOrderUptoRow : OpenClaim := { program := "ytpnbfohdfffolaa", sum := "a22b15979a01bf2107bc5cae29115bd91ece662a10398cac3e956141996e5828", func := "thurible/thuriblelaw09.CoinsOrder", spec := "coinsOrder", inPlace := ["internal/bytealg.Compare", "slices.overlaps[thurible/coins.Coin]"], unfollowed := true, recurses := true, apart := false, narrowed := true }
def CoinsOrderUptoSaid : Prop := coinsOrderUptoRow.holds Try.pinned (OpenSpec.upto coinsOrderSpec)

/-- 'thuriblelaw09.CoinsOnce', WHERE WHAT IT READS IS OF BULK AT MOST 1048576: true; the input reads as it did. -/
def coinsOnceUptoRow : OpenClaim := { program := "ytpnbfohdfffolaa", sum := "a22b15979a01bf2107bc5cae29115bd91ece662a10398cac3e956141996e5828", func := "thurible/thuriblelaw09.CoinsOnce", spec := "coinsOnce", inPlace := ["internal/bytealg.Compare", "slices.overlaps[thurible/coins.Coin]"], unfollowed := true, recurses := true, apart := false, narrowed := true }
def CoinsOnceUptoSaid : Prop := coinsOnceUptoRow.holds Try.pinned (OpenSpec.upto coinsOnceSpec)

/-- 'thuriblelaw09.CoinsKept', WHERE WHAT IT READS IS OF BULK AT MOST 1048576: true; the input reads as it did. -/
def coinsKeptUptoRow : OpenClaim := { program := "ytpnbfohdfffolaa", sum := "a22b15979a01bf2107bc5cae29115bd91ece662a10398cac3e956141996e5828", func := "thurible/thuriblelaw09.CoinsKept", spec := "coinsKept", inPlace := ["internal/bytealg.Compare", "slices.overlaps[thurible/coins.Coin]"], unfollowed := true, recurses := true, apart := false, narrowed := true }
def CoinsKeptUptoSaid : Prop := coinsKeptUptoRow.holds Try.pinned (OpenSpec.upto coinsKeptSpec)

/-- 'thuriblelaw09.CoinsBack', WHERE WHAT IT READS IS OF BULK AT MOST 1048576: true; the input reads as it did. -/
def coinsBackUptoRow : OpenClaim := { program := "ytpnbfohdfffolaa", sum := "a22b15979a01bf2107bc5cae29115bd91ece662a10398cac3e956141996e5828", func := "thurible/thuriblelaw09.CoinsBack", spec := "coinsBack", inPlace := ["internal/bytealg.Compare", "slices.overlaps[thurible/coins.Coin]"], unfollowed := true, recurses := true, apart := false, narrowed := true }
def CoinsBackUptoSaid : Prop := coinsBackUptoRow.holds Try.pinned (OpenSpec.upto coinsBackSpec)

/-- 'thuriblelaw09.CoinsTells', WHERE WHAT IT READS IS OF BULK AT MOST 1048576: true; the input reads as it did. -/
def coinsTellsUptoRow : OpenClaim := { program := "ytpnbfohdfffolaa", sum := "a22b15979a01bf2107bc5cae29115bd91ece662a10398cac3e956141996e5828", func := "thurible/thuriblelaw09.CoinsTells", spec := "coinsTells", inPlace := ["internal/bytealg.Compare", "slices.overlaps[thurible/coins.Coin]"], unfollowed := true, recurses := true, apart := false, narrowed := true }
def CoinsTellsUptoSaid : Prop := coinsTellsUptoRow.holds Try.pinned (OpenSpec.upto coinsTellsSpec)

end Rows
end Go.Proofs.Ytpnbfohdfffolaa
