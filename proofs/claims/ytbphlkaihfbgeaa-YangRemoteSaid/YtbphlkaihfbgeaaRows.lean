/-
  No cell of these rows narrows 'for every input' (looked for: loops, veiled, ifaces, maps, wideKeys, modest, calm, conditions, laid).
  DERIVED. THE GIVEN ROWS OF THIS SEAT. 8 by the template 'for every input the law returns true; each argument reads behind the call as it read before'; 0 by the template 'total and deterministic' (their statements: YtbphlkaihfbgeaaTotals.lean).
  GIVEN WITH THE SEED: the statements are not yours to turn. If you find one false, say at which input.
  Laid BY PROGRAM, IN A SANDBOX (cutbox-rows.mjs): the forced cells as the released guide's own fill.sh prints them over the translation 5369de2aa8a89c93… (all of the seat's roots in one cut). By AI agents, Wed Nov 11 2026. No macro, syntax, notation, axiom, sorry.
-/
import Derived.Test.YtbphlkaihfbgeaaChecked
import GoSem.Claim
import GoSem.ClaimJoined
import GoSem.ClaimMapViews
import Derived.JoinedTies
import Derived.KernelRfl
namespace Go.Proofs.Ytbphlkaihfbgeaa
/- THE CELL 'sum', in the pinned program and in every row, IS THE sha256 OF THE DUMP (.gsa) THAT YtbphlkaihfbgeaaProg.lean LOADS. Nothing in Lean hashes anything: it is a label: what it is worth is what the hold of that sum in a sandbox is worth. -/
noncomputable def Try.pinned : Pinned := { name := "ytbphlkaihfbgeaa", sum := "5369de2aa8a89c93303fe8875735f0bfc3e5abb5a4746ae0461845075ef4932d", checked := Try.checked }
namespace Rows
def none {H : Type} : Left H := { results := [], args := [] }

/-- 'kevellaw30.TreeAlone': WHATEVER THE INPUT: true; the input reads as it did. -/
def treeAloneSpec : ChangeSpec := { name := "treeAlone", fn := fun _ => fun
  | [d1, d2, d3] => { results := [.lit (.bool true)], args := [d1, d2, d3] }
  | _ => none }
def treeAloneRow : OpenClaim := { program := "ytbphlkaihfbgeaa", sum := "5369de2aa8a89c93303fe8875735f0bfc3e5abb5a4746ae0461845075ef4932d", func := "kevel/kevellaw30.TreeAlone", spec := "treeAlone", unfollowed := true, recurses := true, apart := false }
def TreeAloneSaid : Prop := treeAloneRow.holds Try.pinned (OpenSpec.ofChange treeAloneSpec)

/-- ITS FALSE NEIGHBOUR: 'it returns false'. Refute it at one input. -/
def treeAloneWrong : ChangeSpec := { name := "treeAlone", fn := fun _ => fun
  | [d1, d2, d3] => { results := [.lit (.bool false)], args := [d1, d2, d3] }
  | _ => none }
def TreeAloneWrongFalsely : Prop := treeAloneRow.holds Try.pinned (OpenSpec.ofChange treeAloneWrong)

/-- 'kevellaw31.SplitterSplits': WHATEVER THE INPUT: true; the input reads as it did. -/
def splitterSplitsSpec : ChangeSpec := { name := "splitterSplits", fn := fun _ => fun
  | [d1, d2] => { results := [.lit (.bool true)], args := [d1, d2] }
  | _ => none }
def splitterSplitsRow : OpenClaim := { program := "ytbphlkaihfbgeaa", sum := "5369de2aa8a89c93303fe8875735f0bfc3e5abb5a4746ae0461845075ef4932d", func := "kevel/kevellaw31.SplitterSplits", spec := "splitterSplits", unfollowed := true, recurses := true, apart := false }
def SplitterSplitsSaid : Prop := splitterSplitsRow.holds Try.pinned (OpenSpec.ofChange splitterSplitsSpec)

/-- ITS FALSE NEIGHBOUR: 'it returns false'. Refute it at one input. -/
def splitterSplitsWrong : ChangeSpec := { name := "splitterSplits", fn := fun _ => fun
  | [d1, d2] => { results := [.lit (.bool false)], args := [d1, d2] }
  | _ => none }
def SplitterSplitsWrongFalsely : Prop := splitterSplitsRow.holds Try.pinned (OpenSpec.ofChange splitterSplitsWrong)

/-- 'kevellaw48.EisenOne': WHATEVER THE INPUT: true; the input reads as it did. -/
def eisenOneSpec : ChangeSpec := { name := "eisenOne", fn := fun _ => fun
  | [d1, d2] => { results := [.lit (.bool true)], args := [d1, d2] }
  | _ => none }
def eisenOneRow : OpenClaim := { program := "ytbphlkaihfbgeaa", sum := "5369de2aa8a89c93303fe8875735f0bfc3e5abb5a4746ae0461845075ef4932d", func := "kevel/kevellaw48.EisenOne", spec := "eisenOne", unfollowed := true, recurses := true, apart := false }
def EisenOneSaid : Prop := eisenOneRow.holds Try.pinned (OpenSpec.ofChange eisenOneSpec)

/-- ITS FALSE NEIGHBOUR: 'it returns false'. Refute it at one input. -/
def eisenOneWrong : ChangeSpec := { name := "eisenOne", fn := fun _ => fun
  | [d1, d2] => { results := [.lit (.bool false)], args := [d1, d2] }
  | _ => none }
def EisenOneWrongFalsely : Prop := eisenOneRow.holds Try.pinned (OpenSpec.ofChange eisenOneWrong)

/-- 'kevellaw51.SnapCosts': WHATEVER THE INPUT: true; the input reads as it did. -/
def snapCostsSpec : ChangeSpec := { name := "snapCosts", fn := fun _ => fun
  | [d1, d2, d3, d4] => { results := [.lit (.bool true)], args := [d1, d2, d3, d4] }
  | _ => none }
def snapCostsRow : OpenClaim := { program := "ytbphlkaihfbgeaa", sum := "5369de2aa8a89c93303fe8875735f0bfc3e5abb5a4746ae0461845075ef4932d", func := "kevel/kevellaw51.SnapCosts", spec := "snapCosts", unfollowed := true, recurses := true, apart := false }
def SnapCostsSaid : Prop := snapCostsRow.holds Try.pinned (OpenSpec.ofChange snapCostsSpec)

/-- ITS FALSE NEIGHBOUR: 'it returns false'. Refute it at one input. -/
def snapCostsWrong : ChangeSpec := { name := "snapCosts", fn := fun _ => fun
  | [d1, d2, d3, d4] => { results := [.lit (.bool false)], args := [d1, d2, d3, d4] }
  | _ => none }
def SnapCostsWrongFalsely : Prop := snapCostsRow.holds Try.pinned (OpenSpec.ofChange snapCostsWrong)

/-- 'kevellaw17.RegCosts': WHATEVER THE INPUT: true; the input reads as it did. -/
def regCostsSpec : ChangeSpec := { name := "regCosts", fn := fun _ => fun
  | [d1, d2, d3, d4] => { results := [.lit (.bool true)], args := [d1, d2, d3, d4] }
  | _ => none }
def regCostsRow : OpenClaim := { program := "ytbphlkaihfbgeaa", sum := "5369de2aa8a89c93303fe8875735f0bfc3e5abb5a4746ae0461845075ef4932d", func := "kevel/kevellaw17.RegCosts", spec := "regCosts", unfollowed := true, recurses := true, apart := false }
def RegCostsSaid : Prop := regCostsRow.holds Try.pinned (OpenSpec.ofChange regCostsSpec)

/-- ITS FALSE NEIGHBOUR: 'it returns false'. Refute it at one input. -/
def regCostsWrong : ChangeSpec := { name := "regCosts", fn := fun _ => fun
  | [d1, d2, d3, d4] => { results := [.lit (.bool false)], args := [d1, d2, d3, d4] }
  | _ => none }
def RegCostsWrongFalsely : Prop := regCostsRow.holds Try.pinned (OpenSpec.ofChange regCostsWrong)

/-- 'kevellaw47.YangRemote': WHATEVER THE INPUT: true; the input reads as it did. -/
def yangRemoteSpec : ChangeSpec := { name := "yangRemote", fn := fun _ => fun
  | [d1, d2, d3] => { results := [.lit (.bool true)], args := [d1, d2, d3] }
  | _ => none }
def yangRemoteRow : OpenClaim := { program := "ytbphlkaihfbgeaa", sum := "5369de2aa8a89c93303fe8875735f0bfc3e5abb5a4746ae0461845075ef4932d", func := "kevel/kevellaw47.YangRemote", spec := "yangRemote", unfollowed := true, recurses := true, apart := false }
def YangRemoteSaid : Prop := yangRemoteRow.holds Try.pinned (OpenSpec.ofChange yangRemoteSpec)

/-- ITS FALSE NEIGHBOUR: 'it returns false'. Refute it at one input. -/
def yangRemoteWrong : ChangeSpec := { name := "yangRemote", fn := fun _ => fun
  | [d1, d2, d3] => { results := [.lit (.bool false)], args := [d1, d2, d3] }
  | _ => none }
def YangRemoteWrongFalsely : Prop := yangRemoteRow.holds Try.pinned (OpenSpec.ofChange yangRemoteWrong)

/-- 'kevellaw47.YangOne': WHATEVER THE INPUT: true; the input reads as it did. -/
def yangOneSpec : ChangeSpec := { name := "yangOne", fn := fun _ => fun
  | [d1, d2] => { results := [.lit (.bool true)], args := [d1, d2] }
  | _ => none }
def yangOneRow : OpenClaim := { program := "ytbphlkaihfbgeaa", sum := "5369de2aa8a89c93303fe8875735f0bfc3e5abb5a4746ae0461845075ef4932d", func := "kevel/kevellaw47.YangOne", spec := "yangOne", unfollowed := true, recurses := true, apart := false }
def YangOneSaid : Prop := yangOneRow.holds Try.pinned (OpenSpec.ofChange yangOneSpec)

/-- ITS FALSE NEIGHBOUR: 'it returns false'. Refute it at one input. -/
def yangOneWrong : ChangeSpec := { name := "yangOne", fn := fun _ => fun
  | [d1, d2] => { results := [.lit (.bool false)], args := [d1, d2] }
  | _ => none }
def YangOneWrongFalsely : Prop := yangOneRow.holds Try.pinned (OpenSpec.ofChange yangOneWrong)

/-- 'kevellaw32.RenameApart': WHATEVER THE INPUT: true; the input reads as it did. -/
def renameApartSpec : ChangeSpec := { name := "renameApart", fn := fun _ => fun
  | [d1, d2] => { results := [.lit (.bool true)], args := [d1, d2] }
  | _ => none }
def renameApartRow : OpenClaim := { program := "ytbphlkaihfbgeaa", sum := "5369de2aa8a89c93303fe8875735f0bfc3e5abb5a4746ae0461845075ef4932d", func := "kevel/kevellaw32.RenameApart", spec := "renameApart", unfollowed := true, recurses := true, apart := false }
def RenameApartSaid : Prop := renameApartRow.holds Try.pinned (OpenSpec.ofChange renameApartSpec)

/-- ITS FALSE NEIGHBOUR: 'it returns false'. Refute it at one input. -/
def renameApartWrong : ChangeSpec := { name := "renameApart", fn := fun _ => fun
  | [d1, d2] => { results := [.lit (.bool false)], args := [d1, d2] }
  | _ => none }
def RenameApartWrongFalsely : Prop := renameApartRow.holds Try.pinned (OpenSpec.ofChange renameApartWrong)

/- THE SECOND FORM. 'bulk': how many values and letters a reading holds, each counted each time it is reached (what is shared counts as often as it is met; a slice's spare places count too). A statement '..UptoSaid' is the law's where the arguments, and the package variables that the reading takes, are together of bulk at most 1048576: NARROWER than '..Said'. Prove '..Said' where nothing that the law and all that it calls make is longer than what came in: it says more and counts as full. Else prove '..UptoSaid'. A law counts once. -/
mutual
def uptoBulk {H : Type} : DataW H → Nat
  | .lit (.string bytes) => bytes.length + 1
  | .lit _ => 1
  | .nil => 1
  | .ptr d => uptoBulk d + 1
  | .slice elems spare => uptoBulkAll elems + uptoBulkAll spare + 1
  | .agg parts => uptoBulkAll parts + 1
  | .iface _ d => uptoBulk d + 1
  | .map entries => uptoBulkEntries entries + 1
  | .held _ => 1
def uptoBulkAll {H : Type} : List (DataW H) → Nat
  | [] => 0
  | d :: r => uptoBulk d + uptoBulkAll r
def uptoBulkEntries {H : Type} : List (Lit × DataW H) → Nat
  | [] => 0
  | x :: r => uptoBulkEntry x + uptoBulkEntries r
def uptoBulkEntry {H : Type} : Lit × DataW H → Nat
  | (.string bytes, d) => bytes.length + uptoBulk d + 1
  | (_, d) => uptoBulk d + 1
 end
def uptoSmall : (H : Type) → List (DataW H) → Bool := fun _ ds => decide (uptoBulkAll ds ≤ 1048576)
def OpenSpec.upto (s : _root_.Go.ChangeSpec) : _root_.Go.OpenSpec := { _root_.Go.OpenSpec.ofChange s with cond := some uptoSmall }

/-- 'kevellaw30.TreeAlone', WHERE WHAT IT READS IS OF BULK AT MOST 1048576: true; the input reads as it did. -/
def treeAloneUptoRow : OpenClaim := { program := "ytbphlkaihfbgeaa", sum := "5369de2aa8a89c93303fe8875735f0bfc3e5abb5a4746ae0461845075ef4932d", func := "kevel/kevellaw30.TreeAlone", spec := "treeAlone", unfollowed := true, recurses := true, apart := false, narrowed := true }
def TreeAloneUptoSaid : Prop := treeAloneUptoRow.holds Try.pinned (OpenSpec.upto treeAloneSpec)

/-- 'kevellaw31.SplitterSplits', WHERE WHAT IT READS IS OF BULK AT MOST 1048576: true; the input reads as it did. -/
def splitterSplitsUptoRow : OpenClaim := { program := "ytbphlkaihfbgeaa", sum := "5369de2aa8a89c93303fe8875735f0bfc3e5abb5a4746ae0461845075ef4932d", func := "kevel/kevellaw31.SplitterSplits", spec := "splitterSplits", unfollowed := true, recurses := true, apart := false, narrowed := true }
def SplitterSplitsUptoSaid : Prop := splitterSplitsUptoRow.holds Try.pinned (OpenSpec.upto splitterSplitsSpec)

/-- 'kevellaw48.EisenOne', WHERE WHAT IT READS IS OF BULK AT MOST 1048576: true; the input reads as it did. -/
def eisenOneUptoRow : OpenClaim := { program := "ytbphlkaihfbgeaa", sum := "5369de2aa8a89c93303fe8875735f0bfc3e5abb5a4746ae0461845075ef4932d", func := "kevel/kevellaw48.EisenOne", spec := "eisenOne", unfollowed := true, recurses := true, apart := false, narrowed := true }
def EisenOneUptoSaid : Prop := eisenOneUptoRow.holds Try.pinned (OpenSpec.upto eisenOneSpec)

/-- 'kevellaw51.SnapCosts', WHERE WHAT IT READS IS OF BULK AT MOST 1048576: true; the input reads as it did. -/
def snapCostsUptoRow : OpenClaim := { program := "ytbphlkaihfbgeaa", sum := "5369de2aa8a89c93303fe8875735f0bfc3e5abb5a4746ae0461845075ef4932d", func := "kevel/kevellaw51.SnapCosts", spec := "snapCosts", unfollowed := true, recurses := true, apart := false, narrowed := true }
def SnapCostsUptoSaid : Prop := snapCostsUptoRow.holds Try.pinned (OpenSpec.upto snapCostsSpec)

/-- 'kevellaw17.RegCosts', WHERE WHAT IT READS IS OF BULK AT MOST 1048576: true; the input reads as it did. -/
def regCostsUptoRow : OpenClaim := { program := "ytbphlkaihfbgeaa", sum := "5369de2aa8a89c93303fe8875735f0bfc3e5abb5a4746ae0461845075ef4932d", func := "kevel/kevellaw17.RegCosts", spec := "regCosts", unfollowed := true, recurses := true, apart := false, narrowed := true }
def RegCostsUptoSaid : Prop := regCostsUptoRow.holds Try.pinned (OpenSpec.upto regCostsSpec)

/-- 'kevellaw47.YangRemote', WHERE WHAT IT READS IS OF BULK AT MOST 1048576: true; the input reads as it did. -/
def yangRemoteUptoRow : OpenClaim := { program := "ytbphlkaihfbgeaa", sum := "5369de2aa8a89c93303fe8875735f0bfc3e5abb5a4746ae0461845075ef4932d", func := "kevel/kevellaw47.YangRemote", spec := "yangRemote", unfollowed := true, recurses := true, apart := false, narrowed := true }
def YangRemoteUptoSaid : Prop := yangRemoteUptoRow.holds Try.pinned (OpenSpec.upto yangRemoteSpec)

/-- 'kevellaw47.YangOne', WHERE WHAT IT READS IS OF BULK AT MOST 1048576: true; the input reads as it did. -/
def yangOneUptoRow : OpenClaim := { program := "ytbphlkaihfbgeaa", sum := "5369de2aa8a89c93303fe8875735f0bfc3e5abb5a4746ae0461845075ef4932d", func := "kevel/kevellaw47.YangOne", spec := "yangOne", unfollowed := true, recurses := true, apart := false, narrowed := true }
def YangOneUptoSaid : Prop := yangOneUptoRow.holds Try.pinned (OpenSpec.upto yangOneSpec)

/-- 'kevellaw32.RenameApart', WHERE WHAT IT READS IS OF BULK AT MOST 1048576: true; the input reads as it did. -/
def renameApartUptoRow : OpenClaim := { program := "ytbphlkaihfbgeaa", sum := "5369de2aa8a89c93303fe8875735f0bfc3e5abb5a4746ae0461845075ef4932d", func := "kevel/kevellaw32.RenameApart", spec := "renameApart", unfollowed := true, recurses := true, apart := false, narrowed := true }
def RenameApartUptoSaid : Prop := renameApartUptoRow.holds Try.pinned (OpenSpec.upto renameApartSpec)

end Rows
end Go.Proofs.Ytbphlkaihfbgeaa
