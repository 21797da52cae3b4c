/-
  No cell of these rows narrows 'for every input' (looked for: loops, veiled, ifaces, maps, wideKeys, modest, calm, conditions, laid).
  DERIVED. THE GIVEN ROWS OF THIS SEAT. 7 by the template 'for every input the law returns true; each argument reads behind the call as it read before'; 0 by the template 'total and deterministic' (their statements: YtpcohbpeglledaaGreatTotals.lean).
  GIVEN WITH THE SEED: the statements are not yours to turn. If you find one false, say at which input.
  Laid BY PROGRAM, IN A SANDBOX (cutbox-rows.mjs): the forced cells as the released guide's own fill.sh prints them over the translation 8d0d2b376fb9181b… (all of the seat's roots in one cut). By AI agents, Wed Nov 11 2026. No macro, syntax, notation, axiom, sorry.
-/
import Derived.Test.YtpcohbpeglledaaGreatChecked
import GoSem.Claim
import GoSem.ClaimJoined
import GoSem.ClaimMapViews
import Derived.JoinedTies
import Derived.KernelRfl
namespace Go.Proofs.YtpcohbpeglledaaGreat
/- THE CELL 'sum', in the pinned program and in every row, IS THE sha256 OF THE DUMP (.gsa) THAT YtpcohbpeglledaaGreatProg.lean LOADS. Nothing in Lean hashes anything: it is a label: what it is worth is what the hold of that sum in a sandbox is worth. -/
noncomputable def Tryz.pinned : Pinned := { name := "ytpcohbpeglledaagreat", sum := "8d0d2b376fb9181b9ae4147661bc18b708b64bb3b745274f6acbe45816e0c74a", checked := Tryz.checked }
namespace Rows
def none {H : Type} : Left H := { results := [], args := [] }

/-- 'kevellaw31.SplitterPlays': WHATEVER THE INPUT: true; the input reads as it did. -/
def splitterPlaysSpec : ChangeSpec := { name := "splitterPlays", fn := fun _ => fun
  | [d] => { results := [.lit (.bool true)], args := [d] }
  | _ => none }
def splitterPlaysRow : OpenClaim := { program := "ytpcohbpeglledaagreat", sum := "8d0d2b376fb9181b9ae4147661bc18b708b64bb3b745274f6acbe45816e0c74a", func := "kevel/kevellaw31.SplitterPlays", spec := "splitterPlays", unfollowed := true, recurses := true, apart := false }
def SplitterPlaysSaid : Prop := splitterPlaysRow.holds Tryz.pinned (OpenSpec.ofChange splitterPlaysSpec)

/-- ITS FALSE NEIGHBOUR: 'it returns false'. Refute it at one input. -/
def splitterPlaysWrong : ChangeSpec := { name := "splitterPlays", fn := fun _ => fun
  | [d] => { results := [.lit (.bool false)], args := [d] }
  | _ => none }
def SplitterPlaysWrongFalsely : Prop := splitterPlaysRow.holds Tryz.pinned (OpenSpec.ofChange splitterPlaysWrong)

/-- 'kevellaw29.KesselsPlays': WHATEVER THE INPUT: true; the input reads as it did. -/
def kesselsPlaysSpec : ChangeSpec := { name := "kesselsPlays", fn := fun _ => fun
  | [d] => { results := [.lit (.bool true)], args := [d] }
  | _ => none }
def kesselsPlaysRow : OpenClaim := { program := "ytpcohbpeglledaagreat", sum := "8d0d2b376fb9181b9ae4147661bc18b708b64bb3b745274f6acbe45816e0c74a", func := "kevel/kevellaw29.KesselsPlays", spec := "kesselsPlays", unfollowed := true, recurses := true, apart := false }
def KesselsPlaysSaid : Prop := kesselsPlaysRow.holds Tryz.pinned (OpenSpec.ofChange kesselsPlaysSpec)

/-- ITS FALSE NEIGHBOUR: 'it returns false'. Refute it at one input. -/
def kesselsPlaysWrong : ChangeSpec := { name := "kesselsPlays", fn := fun _ => fun
  | [d] => { results := [.lit (.bool false)], args := [d] }
  | _ => none }
def KesselsPlaysWrongFalsely : Prop := kesselsPlaysRow.holds Tryz.pinned (OpenSpec.ofChange kesselsPlaysWrong)

/-- 'kevellaw26.FilterPlays': WHATEVER THE INPUT: true; the input reads as it did. -/
def filterPlaysSpec : ChangeSpec := { name := "filterPlays", fn := fun _ => fun
  | [d1, d2, d3, d4] => { results := [.lit (.bool true)], args := [d1, d2, d3, d4] }
  | _ => none }
def filterPlaysRow : OpenClaim := { program := "ytpcohbpeglledaagreat", sum := "8d0d2b376fb9181b9ae4147661bc18b708b64bb3b745274f6acbe45816e0c74a", func := "kevel/kevellaw26.FilterPlays", spec := "filterPlays", unfollowed := true, recurses := true, apart := false }
def FilterPlaysSaid : Prop := filterPlaysRow.holds Tryz.pinned (OpenSpec.ofChange filterPlaysSpec)

/-- ITS FALSE NEIGHBOUR: 'it returns false'. Refute it at one input. -/
def filterPlaysWrong : ChangeSpec := { name := "filterPlays", fn := fun _ => fun
  | [d1, d2, d3, d4] => { results := [.lit (.bool false)], args := [d1, d2, d3, d4] }
  | _ => none }
def FilterPlaysWrongFalsely : Prop := filterPlaysRow.holds Tryz.pinned (OpenSpec.ofChange filterPlaysWrong)

/-- 'kevellaw27.FastPlays': WHATEVER THE INPUT: true; the input reads as it did. -/
def fastPlaysSpec : ChangeSpec := { name := "fastPlays", fn := fun _ => fun
  | [d1, d2, d3, d4] => { results := [.lit (.bool true)], args := [d1, d2, d3, d4] }
  | _ => none }
def fastPlaysRow : OpenClaim := { program := "ytpcohbpeglledaagreat", sum := "8d0d2b376fb9181b9ae4147661bc18b708b64bb3b745274f6acbe45816e0c74a", func := "kevel/kevellaw27.FastPlays", spec := "fastPlays", unfollowed := true, recurses := true, apart := false }
def FastPlaysSaid : Prop := fastPlaysRow.holds Tryz.pinned (OpenSpec.ofChange fastPlaysSpec)

/-- ITS FALSE NEIGHBOUR: 'it returns false'. Refute it at one input. -/
def fastPlaysWrong : ChangeSpec := { name := "fastPlays", fn := fun _ => fun
  | [d1, d2, d3, d4] => { results := [.lit (.bool false)], args := [d1, d2, d3, d4] }
  | _ => none }
def FastPlaysWrongFalsely : Prop := fastPlaysRow.holds Tryz.pinned (OpenSpec.ofChange fastPlaysWrong)

/-- 'kevellaw25.BlackwhitePlays': WHATEVER THE INPUT: true; the input reads as it did. -/
def blackwhitePlaysSpec : ChangeSpec := { name := "blackwhitePlays", fn := fun _ => fun
  | [d1, d2, d3, d4] => { results := [.lit (.bool true)], args := [d1, d2, d3, d4] }
  | _ => none }
def blackwhitePlaysRow : OpenClaim := { program := "ytpcohbpeglledaagreat", sum := "8d0d2b376fb9181b9ae4147661bc18b708b64bb3b745274f6acbe45816e0c74a", func := "kevel/kevellaw25.BlackwhitePlays", spec := "blackwhitePlays", unfollowed := true, recurses := true, apart := false }
def BlackwhitePlaysSaid : Prop := blackwhitePlaysRow.holds Tryz.pinned (OpenSpec.ofChange blackwhitePlaysSpec)

/-- ITS FALSE NEIGHBOUR: 'it returns false'. Refute it at one input. -/
def blackwhitePlaysWrong : ChangeSpec := { name := "blackwhitePlays", fn := fun _ => fun
  | [d1, d2, d3, d4] => { results := [.lit (.bool false)], args := [d1, d2, d3, d4] }
  | _ => none }
def BlackwhitePlaysWrongFalsely : Prop := blackwhitePlaysRow.holds Tryz.pinned (OpenSpec.ofChange blackwhitePlaysWrong)

/-- 'kevellaw30.TreePaths': WHATEVER THE INPUT: true; the input reads as it did. -/
def treePathsSpec : ChangeSpec := { name := "treePaths", fn := fun _ => fun
  | [d1, d2, d3] => { results := [.lit (.bool true)], args := [d1, d2, d3] }
  | _ => none }
def treePathsRow : OpenClaim := { program := "ytpcohbpeglledaagreat", sum := "8d0d2b376fb9181b9ae4147661bc18b708b64bb3b745274f6acbe45816e0c74a", func := "kevel/kevellaw30.TreePaths", spec := "treePaths", unfollowed := true, recurses := true, apart := false }
def TreePathsSaid : Prop := treePathsRow.holds Tryz.pinned (OpenSpec.ofChange treePathsSpec)

/-- ITS FALSE NEIGHBOUR: 'it returns false'. Refute it at one input. -/
def treePathsWrong : ChangeSpec := { name := "treePaths", fn := fun _ => fun
  | [d1, d2, d3] => { results := [.lit (.bool false)], args := [d1, d2, d3] }
  | _ => none }
def TreePathsWrongFalsely : Prop := treePathsRow.holds Tryz.pinned (OpenSpec.ofChange treePathsWrong)

/-- 'kevellaw30.TreePlays': WHATEVER THE INPUT: true; the input reads as it did. -/
def treePlaysSpec : ChangeSpec := { name := "treePlays", fn := fun _ => fun
  | [d1, d2, d3, d4] => { results := [.lit (.bool true)], args := [d1, d2, d3, d4] }
  | _ => none }
def treePlaysRow : OpenClaim := { program := "ytpcohbpeglledaagreat", sum := "8d0d2b376fb9181b9ae4147661bc18b708b64bb3b745274f6acbe45816e0c74a", func := "kevel/kevellaw30.TreePlays", spec := "treePlays", unfollowed := true, recurses := true, apart := false }
def TreePlaysSaid : Prop := treePlaysRow.holds Tryz.pinned (OpenSpec.ofChange treePlaysSpec)

/-- ITS FALSE NEIGHBOUR: 'it returns false'. Refute it at one input. -/
def treePlaysWrong : ChangeSpec := { name := "treePlays", fn := fun _ => fun
  | [d1, d2, d3, d4] => { results := [.lit (.bool false)], args := [d1, d2, d3, d4] }
  | _ => none }
def TreePlaysWrongFalsely : Prop := treePlaysRow.holds Tryz.pinned (OpenSpec.ofChange treePlaysWrong)

/- THE SECOND FORM. 'bulk': how many values and letters a reading holds, each counted each time it is reached (what is shared counts as often as it is met; a slice's spare places count too). A statement '..UptoSaid' is the law's where the arguments, and the package variables that the reading takes, are together of bulk at most 1048576: NARROWER than '..Said'. Prove '..Said' where nothing that the law and all that it calls make is longer than what came in: it says more and counts as full. Else prove '..UptoSaid'. A law counts once. -/
mutual
def uptoBulk {H : Type} : DataW H → Nat
  | .lit (.string bytes) => bytes.length + 1
  | .lit _ => 1
  | .nil => 1
  | .ptr d => uptoBulk d + 1
  | .slice elems spare => uptoBulkAll elems + uptoBulkAll spare + 1
  | .agg parts => uptoBulkAll parts + 1
  | .iface _ d => uptoBulk d + 1
  | .map entries => uptoBulkEntries entries + 1
  | .held _ => 1
def uptoBulkAll {H : Type} : List (DataW H) → Nat
  | [] => 0
  | d :: r => uptoBulk d + uptoBulkAll r
def uptoBulkEntries {H : Type} : List (Lit × DataW H) → Nat
  | [] => 0
  | x :: r => uptoBulkEntry x + uptoBulkEntries r
def uptoBulkEntry {H : Type} : Lit × DataW H → Nat
  | (.string bytes, d) => bytes.length + uptoBulk d + 1
  | (_, d) => uptoBulk d + 1
 end
def uptoSmall : (H : Type) → List (DataW H) → Bool := fun _ ds => decide (uptoBulkAll ds ≤ 1048576)
def OpenSpec.upto (s : _root_.Go.ChangeSpec) : _root_.Go.OpenSpec := { _root_.Go.OpenSpec.ofChange s with cond := some uptoSmall }

/-- 'kevellaw31.SplitterPlays', WHERE WHAT IT READS IS OF BULK AT MOST 1048576: true; the input reads as it did. -/
def splitterPlaysUptoRow : OpenClaim := { program := "ytpcohbpeglledaagreat", sum := "8d0d2b376fb9181b9ae4147661bc18b708b64bb3b745274f6acbe45816e0c74a", func := "kevel/kevellaw31.SplitterPlays", spec := "splitterPlays", unfollowed := true, recurses := true, apart := false, narrowed := true }
def SplitterPlaysUptoSaid : Prop := splitterPlaysUptoRow.holds Tryz.pinned (OpenSpec.upto splitterPlaysSpec)

/-- 'kevellaw29.KesselsPlays', WHERE WHAT IT READS IS OF BULK AT MOST 1048576: true; the input reads as it did. -/
def kesselsPlaysUptoRow : OpenClaim := { program := "ytpcohbpeglledaagreat", sum := "8d0d2b376fb9181b9ae4147661bc18b708b64bb3b745274f6acbe45816e0c74a", func := "kevel/kevellaw29.KesselsPlays", spec := "kesselsPlays", unfollowed := true, recurses := true, apart := false, narrowed := true }
def KesselsPlaysUptoSaid : Prop := kesselsPlaysUptoRow.holds Tryz.pinned (OpenSpec.upto kesselsPlaysSpec)

/-- 'kevellaw26.FilterPlays', WHERE WHAT IT READS IS OF BULK AT MOST 1048576: true; the input reads as it did. -/
def filterPlaysUptoRow : OpenClaim := { program := "ytpcohbpeglledaagreat", sum := "8d0d2b376fb9181b9ae4147661bc18b708b64bb3b745274f6acbe45816e0c74a", func := "kevel/kevellaw26.FilterPlays", spec := "filterPlays", unfollowed := true, recurses := true, apart := false, narrowed := true }
def FilterPlaysUptoSaid : Prop := filterPlaysUptoRow.holds Tryz.pinned (OpenSpec.upto filterPlaysSpec)

/-- 'kevellaw27.FastPlays', WHERE WHAT IT READS IS OF BULK AT MOST 1048576: true; the input reads as it did. -/
def fastPlaysUptoRow : OpenClaim := { program := "ytpcohbpeglledaagreat", sum := "8d0d2b376fb9181b9ae4147661bc18b708b64bb3b745274f6acbe45816e0c74a", func := "kevel/kevellaw27.FastPlays", spec := "fastPlays", unfollowed := true, recurses := true, apart := false, narrowed := true }
def FastPlaysUptoSaid : Prop := fastPlaysUptoRow.holds Tryz.pinned (OpenSpec.upto fastPlaysSpec)

/-- 'kevellaw25.BlackwhitePlays', WHERE WHAT IT READS IS OF BULK AT MOST 1048576: true; the input reads as it did. -/
def blackwhitePlaysUptoRow : OpenClaim := { program := "ytpcohbpeglledaagreat", sum := "8d0d2b376fb9181b9ae4147661bc18b708b64bb3b745274f6acbe45816e0c74a", func := "kevel/kevellaw25.BlackwhitePlays", spec := "blackwhitePlays", unfollowed := true, recurses := true, apart := false, narrowed := true }
def BlackwhitePlaysUptoSaid : Prop := blackwhitePlaysUptoRow.holds Tryz.pinned (OpenSpec.upto blackwhitePlaysSpec)

/-- 'kevellaw30.TreePaths', WHERE WHAT IT READS IS OF BULK AT MOST 1048576: true; the input reads as it did. -/
def treePathsUptoRow : OpenClaim := { program := "ytpcohbpeglledaagreat", sum := "8d0d2b376fb9181b9ae4147661bc18b708b64bb3b745274f6acbe45816e0c74a", func := "kevel/kevellaw30.TreePaths", spec := "treePaths", unfollowed := true, recurses := true, apart := false, narrowed := true }
def TreePathsUptoSaid : Prop := treePathsUptoRow.holds Tryz.pinned (OpenSpec.upto treePathsSpec)

/-- 'kevellaw30.TreePlays', WHERE WHAT IT READS IS OF BULK AT MOST 1048576: true; the input reads as it did. -/
def treePlaysUptoRow : OpenClaim := { program := "ytpcohbpeglledaagreat", sum := "8d0d2b376fb9181b9ae4147661bc18b708b64bb3b745274f6acbe45816e0c74a", func := "kevel/kevellaw30.TreePlays", spec := "treePlays", unfollowed := true, recurses := true, apart := false, narrowed := true }
def TreePlaysUptoSaid : Prop := treePlaysUptoRow.holds Tryz.pinned (OpenSpec.upto treePlaysSpec)

end Rows
end Go.Proofs.YtpcohbpeglledaaGreat
