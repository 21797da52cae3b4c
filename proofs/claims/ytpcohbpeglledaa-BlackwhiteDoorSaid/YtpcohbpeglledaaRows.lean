/-
  No cell of these rows narrows 'for every input' (looked for: loops, veiled, ifaces, maps, wideKeys, modest, calm, conditions, laid).
  DERIVED. THE GIVEN ROWS OF THIS SEAT. 5 by the template 'for every input the law returns true; each argument reads behind the call as it read before'; 0 by the template 'total and deterministic' (their statements: YtpcohbpeglledaaTotals.lean).
  GIVEN WITH THE SEED: the statements are not yours to turn. If you find one false, say at which input.
  Laid BY PROGRAM, IN A SANDBOX (cutbox-rows.mjs): the forced cells as the released guide's own fill.sh prints them over the translation e60f95cc15a8bc9d… (all of the seat's roots in one cut). By AI agents, Wed Nov 11 2026. No macro, syntax, notation, axiom, sorry.
-/
import Derived.Test.YtpcohbpeglledaaChecked
import GoSem.Claim
import GoSem.ClaimJoined
import GoSem.ClaimMapViews
import Derived.JoinedTies
import Derived.KernelRfl
namespace Go.Proofs.Ytpcohbpeglledaa
/- THE CELL 'sum', in the pinned program and in every row, IS THE sha256 OF THE DUMP (.gsa) THAT YtpcohbpeglledaaProg.lean LOADS. Nothing in Lean hashes anything: it is a label: what it is worth is what the hold of that sum in a sandbox is worth. -/
noncomputable def Try.pinned : Pinned := { name := "ytpcohbpeglledaa", sum := "e60f95cc15a8bc9dc7878d194d8893d27e2ada960547b1bb64b74e2fd2d43c34", checked := Try.checked }
namespace Rows
def none {H : Type} : Left H := { results := [], args := [] }

/-- 'kevellaw29.KesselsAlone': WHATEVER THE INPUT: true; the input reads as it did. -/
def kesselsAloneSpec : ChangeSpec := { name := "kesselsAlone", fn := fun _ => fun
  | [d1, d2] => { results := [.lit (.bool true)], args := [d1, d2] }
  | _ => none }
def kesselsAloneRow : OpenClaim := { program := "ytpcohbpeglledaa", sum := "e60f95cc15a8bc9dc7878d194d8893d27e2ada960547b1bb64b74e2fd2d43c34", func := "kevel/kevellaw29.KesselsAlone", spec := "kesselsAlone", unfollowed := true, recurses := true, apart := false }
def KesselsAloneSaid : Prop := kesselsAloneRow.holds Try.pinned (OpenSpec.ofChange kesselsAloneSpec)

/-- ITS FALSE NEIGHBOUR: 'it returns false'. Refute it at one input. -/
def kesselsAloneWrong : ChangeSpec := { name := "kesselsAlone", fn := fun _ => fun
  | [d1, d2] => { results := [.lit (.bool false)], args := [d1, d2] }
  | _ => none }
def KesselsAloneWrongFalsely : Prop := kesselsAloneRow.holds Try.pinned (OpenSpec.ofChange kesselsAloneWrong)

/-- 'kevellaw28.ArbiterAlone': WHATEVER THE INPUT: true; the input reads as it did. -/
def arbiterAloneSpec : ChangeSpec := { name := "arbiterAlone", fn := fun _ => fun
  | [d1, d2] => { results := [.lit (.bool true)], args := [d1, d2] }
  | _ => none }
def arbiterAloneRow : OpenClaim := { program := "ytpcohbpeglledaa", sum := "e60f95cc15a8bc9dc7878d194d8893d27e2ada960547b1bb64b74e2fd2d43c34", func := "kevel/kevellaw28.ArbiterAlone", spec := "arbiterAlone", unfollowed := true, recurses := true, apart := false }
def ArbiterAloneSaid : Prop := arbiterAloneRow.holds Try.pinned (OpenSpec.ofChange arbiterAloneSpec)

/-- ITS FALSE NEIGHBOUR: 'it returns false'. Refute it at one input. -/
def arbiterAloneWrong : ChangeSpec := { name := "arbiterAlone", fn := fun _ => fun
  | [d1, d2] => { results := [.lit (.bool false)], args := [d1, d2] }
  | _ => none }
def ArbiterAloneWrongFalsely : Prop := arbiterAloneRow.holds Try.pinned (OpenSpec.ofChange arbiterAloneWrong)

/-- 'kevellaw26.FilterAlone': WHATEVER THE INPUT: true; the input reads as it did. -/
def filterAloneSpec : ChangeSpec := { name := "filterAlone", fn := fun _ => fun
  | [d1, d2] => { results := [.lit (.bool true)], args := [d1, d2] }
  | _ => none }
def filterAloneRow : OpenClaim := { program := "ytpcohbpeglledaa", sum := "e60f95cc15a8bc9dc7878d194d8893d27e2ada960547b1bb64b74e2fd2d43c34", func := "kevel/kevellaw26.FilterAlone", spec := "filterAlone", unfollowed := true, recurses := true, apart := false }
def FilterAloneSaid : Prop := filterAloneRow.holds Try.pinned (OpenSpec.ofChange filterAloneSpec)

/-- ITS FALSE NEIGHBOUR: 'it returns false'. Refute it at one input. -/
def filterAloneWrong : ChangeSpec := { name := "filterAlone", fn := fun _ => fun
  | [d1, d2] => { results := [.lit (.bool false)], args := [d1, d2] }
  | _ => none }
def FilterAloneWrongFalsely : Prop := filterAloneRow.holds Try.pinned (OpenSpec.ofChange filterAloneWrong)

/-- 'kevellaw27.FastAlone': WHATEVER THE INPUT: true; the input reads as it did. -/
def fastAloneSpec : ChangeSpec := { name := "fastAlone", fn := fun _ => fun
  | [d1, d2] => { results := [.lit (.bool true)], args := [d1, d2] }
  | _ => none }
def fastAloneRow : OpenClaim := { program := "ytpcohbpeglledaa", sum := "e60f95cc15a8bc9dc7878d194d8893d27e2ada960547b1bb64b74e2fd2d43c34", func := "kevel/kevellaw27.FastAlone", spec := "fastAlone", unfollowed := true, recurses := true, apart := false }
def FastAloneSaid : Prop := fastAloneRow.holds Try.pinned (OpenSpec.ofChange fastAloneSpec)

/-- ITS FALSE NEIGHBOUR: 'it returns false'. Refute it at one input. -/
def fastAloneWrong : ChangeSpec := { name := "fastAlone", fn := fun _ => fun
  | [d1, d2] => { results := [.lit (.bool false)], args := [d1, d2] }
  | _ => none }
def FastAloneWrongFalsely : Prop := fastAloneRow.holds Try.pinned (OpenSpec.ofChange fastAloneWrong)

/-- 'kevellaw25.BlackwhiteDoor': WHATEVER THE INPUT: true; the input reads as it did. -/
def blackwhiteDoorSpec : ChangeSpec := { name := "blackwhiteDoor", fn := fun _ => fun
  | [d1, d2, d3] => { results := [.lit (.bool true)], args := [d1, d2, d3] }
  | _ => none }
def blackwhiteDoorRow : OpenClaim := { program := "ytpcohbpeglledaa", sum := "e60f95cc15a8bc9dc7878d194d8893d27e2ada960547b1bb64b74e2fd2d43c34", func := "kevel/kevellaw25.BlackwhiteDoor", spec := "blackwhiteDoor", unfollowed := true, recurses := true, apart := false }
def BlackwhiteDoorSaid : Prop := blackwhiteDoorRow.holds Try.pinned (OpenSpec.ofChange blackwhiteDoorSpec)

/-- ITS FALSE NEIGHBOUR: 'it returns false'. Refute it at one input. -/
def blackwhiteDoorWrong : ChangeSpec := { name := "blackwhiteDoor", fn := fun _ => fun
  | [d1, d2, d3] => { results := [.lit (.bool false)], args := [d1, d2, d3] }
  | _ => none }
def BlackwhiteDoorWrongFalsely : Prop := blackwhiteDoorRow.holds Try.pinned (OpenSpec.ofChange blackwhiteDoorWrong)

/- THE SECOND FORM. 'bulk': how many values and letters a reading holds, each counted each time it is reached (what is shared counts as often as it is met; a slice's spare places count too). A statement '..UptoSaid' is the law's where the arguments, and the package variables that the reading takes, are together of bulk at most 1048576: NARROWER than '..Said'. Prove '..Said' where nothing that the law and all that it calls make is longer than what came in: it says more and counts as full. Else prove '..UptoSaid'. A law counts once. -/
mutual
def uptoBulk {H : Type} : DataW H → Nat
  | .lit (.string bytes) => bytes.length + 1
  | .lit _ => 1
  | .nil => 1
  | .ptr d => uptoBulk d + 1
  | .slice elems spare => uptoBulkAll elems + uptoBulkAll spare + 1
  | .agg parts => uptoBulkAll parts + 1
  | .iface _ d => uptoBulk d + 1
  | .map entries => uptoBulkEntries entries + 1
  | .held _ => 1
def uptoBulkAll {H : Type} : List (DataW H) → Nat
  | [] => 0
  | d :: r => uptoBulk d + uptoBulkAll r
def uptoBulkEntries {H : Type} : List (Lit × DataW H) → Nat
  | [] => 0
  | x :: r => uptoBulkEntry x + uptoBulkEntries r
def uptoBulkEntry {H : Type} : Lit × DataW H → Nat
  | (.string bytes, d) => bytes.length + uptoBulk d + 1
  | (_, d) => uptoBulk d + 1
 end
def uptoSmall : (H : Type) → List (DataW H) → Bool := fun _ ds => decide (uptoBulkAll ds ≤ 1048576)
def OpenSpec.upto (s : _root_.Go.ChangeSpec) : _root_.Go.OpenSpec := { _root_.Go.OpenSpec.ofChange s with cond := some uptoSmall }

/-- 'kevellaw29.KesselsAlone', WHERE WHAT IT READS IS OF BULK AT MOST 1048576: true; the input reads as it did. -/
def kesselsAloneUptoRow : OpenClaim := { program := "ytpcohbpeglledaa", sum := "e60f95cc15a8bc9dc7878d194d8893d27e2ada960547b1bb64b74e2fd2d43c34", func := "kevel/kevellaw29.KesselsAlone", spec := "kesselsAlone", unfollowed := true, recurses := true, apart := false, narrowed := true }
def KesselsAloneUptoSaid : Prop := kesselsAloneUptoRow.holds Try.pinned (OpenSpec.upto kesselsAloneSpec)

/-- 'kevellaw28.ArbiterAlone', WHERE WHAT IT READS IS OF BULK AT MOST 1048576: true; the input reads as it did. -/
def arbiterAloneUptoRow : OpenClaim := { program := "ytpcohbpeglledaa", sum := "e60f95cc15a8bc9dc7878d194d8893d27e2ada960547b1bb64b74e2fd2d43c34", func := "kevel/kevellaw28.ArbiterAlone", spec := "arbiterAlone", unfollowed := true, recurses := true, apart := false, narrowed := true }
def ArbiterAloneUptoSaid : Prop := arbiterAloneUptoRow.holds Try.pinned (OpenSpec.upto arbiterAloneSpec)

/-- 'kevellaw26.FilterAlone', WHERE WHAT IT READS IS OF BULK AT MOST 1048576: true; the input reads as it did. -/
def filterAloneUptoRow : OpenClaim := { program := "ytpcohbpeglledaa", sum := "e60f95cc15a8bc9dc7878d194d8893d27e2ada960547b1bb64b74e2fd2d43c34", func := "kevel/kevellaw26.FilterAlone", spec := "filterAlone", unfollowed := true, recurses := true, apart := false, narrowed := true }
def FilterAloneUptoSaid : Prop := filterAloneUptoRow.holds Try.pinned (OpenSpec.upto filterAloneSpec)

/-- 'kevellaw27.FastAlone', WHERE WHAT IT READS IS OF BULK AT MOST 1048576: true; the input reads as it did. -/
def fastAloneUptoRow : OpenClaim := { program := "ytpcohbpeglledaa", sum := "e60f95cc15a8bc9dc7878d194d8893d27e2ada960547b1bb64b74e2fd2d43c34", func := "kevel/kevellaw27.FastAlone", spec := "fastAlone", unfollowed := true, recurses := true, apart := false, narrowed := true }
def FastAloneUptoSaid : Prop := fastAloneUptoRow.holds Try.pinned (OpenSpec.upto fastAloneSpec)

/-- 'kevellaw25.BlackwhiteDoor', WHERE WHAT IT READS IS OF BULK AT MOST 1048576: true; the input reads as it did. -/
def blackwhiteDoorUptoRow : OpenClaim := { program := "ytpcohbpeglledaa", sum := "e60f95cc15a8bc9dc7878d194d8893d27e2ada960547b1bb64b74e2fd2d43c34", func := "kevel/kevellaw25.BlackwhiteDoor", spec := "blackwhiteDoor", unfollowed := true, recurses := true, apart := false, narrowed := true }
def BlackwhiteDoorUptoSaid : Prop := blackwhiteDoorUptoRow.holds Try.pinned (OpenSpec.upto blackwhiteDoorSpec)

end Rows
end Go.Proofs.Ytpcohbpeglledaa
