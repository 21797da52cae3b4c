/-
  No cell of these rows narrows 'for every input' (looked for: loops, veiled, ifaces, maps, wideKeys, modest, calm, conditions, laid).
  DERIVED. THE GIVEN ROWS OF THIS SEAT. 6 by the template 'for every input the law returns true; each argument reads behind the call as it read before'; 0 by the template 'total and deterministic' (their statements: YtponihangpiooaaGreatTotals.lean).
  GIVEN WITH THE SEED: the statements are not yours to turn. If you find one false, say at which input.
  Laid BY PROGRAM, IN A SANDBOX (cutbox-rows.mjs): the forced cells as the released guide's own fill.sh prints them over the translation 4eec61e26e0c8976… (all of the seat's roots in one cut). By AI agents, Wed Nov 11 2026. No macro, syntax, notation, axiom, sorry.
-/
import Derived.Test.YtponihangpiooaaGreatChecked
import GoSem.Claim
import GoSem.ClaimJoined
import GoSem.ClaimMapViews
import Derived.JoinedTies
import Derived.KernelRfl
namespace Go.Proofs.YtponihangpiooaaGreat
/- THE CELL 'sum', in the pinned program and in every row, IS THE sha256 OF THE DUMP (.gsa) THAT YtponihangpiooaaGreatProg.lean LOADS. Nothing in Lean hashes anything: it is a label: what it is worth is what the hold of that sum in a sandbox is worth. -/
noncomputable def Tryz.pinned : Pinned := { name := "ytponihangpiooaagreat", sum := "4eec61e26e0c89761915b7f4f20ea964d1430cb3312efc78dd31b78bf99ddab9", checked := Tryz.checked }
namespace Rows
def none {H : Type} : Left H := { results := [], args := [] }

/-- 'kevellaw34.LockAlone': WHATEVER THE INPUT: true; the input reads as it did. -/
def lockAloneSpec : ChangeSpec := { name := "lockAlone", fn := fun _ => fun
  | [d1, d2] => { results := [.lit (.bool true)], args := [d1, d2] }
  | _ => none }
def lockAloneRow : OpenClaim := { program := "ytponihangpiooaagreat", sum := "4eec61e26e0c89761915b7f4f20ea964d1430cb3312efc78dd31b78bf99ddab9", func := "kevel/kevellaw34.LockAlone", spec := "lockAlone", unfollowed := true, recurses := true, apart := false }
def LockAloneSaid : Prop := lockAloneRow.holds Tryz.pinned (OpenSpec.ofChange lockAloneSpec)

/-- ITS FALSE NEIGHBOUR: 'it returns false'. Refute it at one input. -/
def lockAloneWrong : ChangeSpec := { name := "lockAlone", fn := fun _ => fun
  | [d1, d2] => { results := [.lit (.bool false)], args := [d1, d2] }
  | _ => none }
def LockAloneWrongFalsely : Prop := lockAloneRow.holds Tryz.pinned (OpenSpec.ofChange lockAloneWrong)

/-- 'kevellaw41.ScriptBack': WHATEVER THE INPUT: true; the input reads as it did. -/
def scriptBackSpec : ChangeSpec := { name := "scriptBack", fn := fun _ => fun
  | [d1, d2] => { results := [.lit (.bool true)], args := [d1, d2] }
  | _ => none }
def scriptBackRow : OpenClaim := { program := "ytponihangpiooaagreat", sum := "4eec61e26e0c89761915b7f4f20ea964d1430cb3312efc78dd31b78bf99ddab9", func := "kevel/kevellaw41.ScriptBack", spec := "scriptBack", unfollowed := true, recurses := true, apart := false }
def ScriptBackSaid : Prop := scriptBackRow.holds Tryz.pinned (OpenSpec.ofChange scriptBackSpec)

/-- ITS FALSE NEIGHBOUR: 'it returns false'. Refute it at one input. -/
def scriptBackWrong : ChangeSpec := { name := "scriptBack", fn := fun _ => fun
  | [d1, d2] => { results := [.lit (.bool false)], args := [d1, d2] }
  | _ => none }
def ScriptBackWrongFalsely : Prop := scriptBackRow.holds Tryz.pinned (OpenSpec.ofChange scriptBackWrong)

/-- 'kevellaw46.BoundTells': WHATEVER THE INPUT: true; the input reads as it did. -/
def boundTellsSpec : ChangeSpec := { name := "boundTells", fn := fun _ => fun
  | [d1, d2, d3] => { results := [.lit (.bool true)], args := [d1, d2, d3] }
  | _ => none }
def boundTellsRow : OpenClaim := { program := "ytponihangpiooaagreat", sum := "4eec61e26e0c89761915b7f4f20ea964d1430cb3312efc78dd31b78bf99ddab9", func := "kevel/kevellaw46.BoundTells", spec := "boundTells", unfollowed := true, recurses := true, apart := false }
def BoundTellsSaid : Prop := boundTellsRow.holds Tryz.pinned (OpenSpec.ofChange boundTellsSpec)

/-- ITS FALSE NEIGHBOUR: 'it returns false'. Refute it at one input. -/
def boundTellsWrong : ChangeSpec := { name := "boundTells", fn := fun _ => fun
  | [d1, d2, d3] => { results := [.lit (.bool false)], args := [d1, d2, d3] }
  | _ => none }
def BoundTellsWrongFalsely : Prop := boundTellsRow.holds Tryz.pinned (OpenSpec.ofChange boundTellsWrong)

/-- 'kevellaw40.LibApart': WHATEVER THE INPUT: true; the input reads as it did. -/
def libApartSpec : ChangeSpec := { name := "libApart", fn := fun _ => fun
  | [d] => { results := [.lit (.bool true)], args := [d] }
  | _ => none }
def libApartRow : OpenClaim := { program := "ytponihangpiooaagreat", sum := "4eec61e26e0c89761915b7f4f20ea964d1430cb3312efc78dd31b78bf99ddab9", func := "kevel/kevellaw40.LibApart", spec := "libApart", unfollowed := true, recurses := true, apart := false }
def LibApartSaid : Prop := libApartRow.holds Tryz.pinned (OpenSpec.ofChange libApartSpec)

/-- ITS FALSE NEIGHBOUR: 'it returns false'. Refute it at one input. -/
def libApartWrong : ChangeSpec := { name := "libApart", fn := fun _ => fun
  | [d] => { results := [.lit (.bool false)], args := [d] }
  | _ => none }
def LibApartWrongFalsely : Prop := libApartRow.holds Tryz.pinned (OpenSpec.ofChange libApartWrong)

/-- 'kevellaw42.WorldNobody': WHATEVER THE INPUT: true; the input reads as it did. -/
def worldNobodySpec : ChangeSpec := { name := "worldNobody", fn := fun _ => fun
  | [d] => { results := [.lit (.bool true)], args := [d] }
  | _ => none }
def worldNobodyRow : OpenClaim := { program := "ytponihangpiooaagreat", sum := "4eec61e26e0c89761915b7f4f20ea964d1430cb3312efc78dd31b78bf99ddab9", func := "kevel/kevellaw42.WorldNobody", spec := "worldNobody", unfollowed := true, recurses := true, apart := false }
def WorldNobodySaid : Prop := worldNobodyRow.holds Tryz.pinned (OpenSpec.ofChange worldNobodySpec)

/-- ITS FALSE NEIGHBOUR: 'it returns false'. Refute it at one input. -/
def worldNobodyWrong : ChangeSpec := { name := "worldNobody", fn := fun _ => fun
  | [d] => { results := [.lit (.bool false)], args := [d] }
  | _ => none }
def WorldNobodyWrongFalsely : Prop := worldNobodyRow.holds Tryz.pinned (OpenSpec.ofChange worldNobodyWrong)

/-- 'kevellaw42.WorldTurns': WHATEVER THE INPUT: true; the input reads as it did. -/
def worldTurnsSpec : ChangeSpec := { name := "worldTurns", fn := fun _ => fun
  | [d] => { results := [.lit (.bool true)], args := [d] }
  | _ => none }
def worldTurnsRow : OpenClaim := { program := "ytponihangpiooaagreat", sum := "4eec61e26e0c89761915b7f4f20ea964d1430cb3312efc78dd31b78bf99ddab9", func := "kevel/kevellaw42.WorldTurns", spec := "worldTurns", unfollowed := true, recurses := true, apart := false }
def WorldTurnsSaid : Prop := worldTurnsRow.holds Tryz.pinned (OpenSpec.ofChange worldTurnsSpec)

/-- ITS FALSE NEIGHBOUR: 'it returns false'. Refute it at one input. -/
def worldTurnsWrong : ChangeSpec := { name := "worldTurns", fn := fun _ => fun
  | [d] => { results := [.lit (.bool false)], args := [d] }
  | _ => none }
def WorldTurnsWrongFalsely : Prop := worldTurnsRow.holds Tryz.pinned (OpenSpec.ofChange worldTurnsWrong)

/- THE SECOND FORM. 'bulk': how many values and letters a reading holds, each counted each time it is reached (what is shared counts as often as it is met; a slice's spare places count too). A statement '..UptoSaid' is the law's where the arguments, and the package variables that the reading takes, are together of bulk at most 1048576: NARROWER than '..Said'. Prove '..Said' where nothing that the law and all that it calls make is longer than what came in: it says more and counts as full. Else prove '..UptoSaid'. A law counts once. -/
mutual
def uptoBulk {H : Type} : DataW H → Nat
  | .lit (.string bytes) => bytes.length + 1
  | .lit _ => 1
  | .nil => 1
  | .ptr d => uptoBulk d + 1
  | .slice elems spare => uptoBulkAll elems + uptoBulkAll spare + 1
  | .agg parts => uptoBulkAll parts + 1
  | .iface _ d => uptoBulk d + 1
  | .map entries => uptoBulkEntries entries + 1
  | .held _ => 1
def uptoBulkAll {H : Type} : List (DataW H) → Nat
  | [] => 0
  | d :: r => uptoBulk d + uptoBulkAll r
def uptoBulkEntries {H : Type} : List (Lit × DataW H) → Nat
  | [] => 0
  | x :: r => uptoBulkEntry x + uptoBulkEntries r
def uptoBulkEntry {H : Type} : Lit × DataW H → Nat
  | (.string bytes, d) => bytes.length + uptoBulk d + 1
  | (_, d) => uptoBulk d + 1
 end
def uptoSmall : (H : Type) → List (DataW H) → Bool := fun _ ds => decide (uptoBulkAll ds ≤ 1048576)
def OpenSpec.upto (s : _root_.Go.ChangeSpec) : _root_.Go.OpenSpec := { _root_.Go.OpenSpec.ofChange s with cond := some uptoSmall }

/-- 'kevellaw34.LockAlone', WHERE WHAT IT READS IS OF BULK AT MOST 1048576: true; the input reads as it did. -/
def lockAloneUptoRow : OpenClaim := { program := "ytponihangpiooaagreat", sum := "4eec61e26e0c89761915b7f4f20ea964d1430cb3312efc78dd31b78bf99ddab9", func := "kevel/kevellaw34.LockAlone", spec := "lockAlone", unfollowed := true, recurses := true, apart := false, narrowed := true }
def LockAloneUptoSaid : Prop := lockAloneUptoRow.holds Tryz.pinned (OpenSpec.upto lockAloneSpec)

/-- 'kevellaw41.ScriptBack', WHERE WHAT IT READS IS OF BULK AT MOST 1048576: true; the input reads as it did. -/
def scriptBackUptoRow : OpenClaim := { program := "ytponihangpiooaagreat", sum := "4eec61e26e0c89761915b7f4f20ea964d1430cb3312efc78dd31b78bf99ddab9", func := "kevel/kevellaw41.ScriptBack", spec := "scriptBack", unfollowed := true, recurses := true, apart := false, narrowed := true }
def ScriptBackUptoSaid : Prop := scriptBackUptoRow.holds Tryz.pinned (OpenSpec.upto scriptBackSpec)

/-- 'kevellaw46.BoundTells', WHERE WHAT IT READS IS OF BULK AT MOST 1048576: true; the input reads as it did. -/
def boundTellsUptoRow : OpenClaim := { program := "ytponihangpiooaagreat", sum := "4eec61e26e0c89761915b7f4f20ea964d1430cb3312efc78dd31b78bf99ddab9", func := "kevel/kevellaw46.BoundTells", spec := "boundTells", unfollowed := true, recurses := true, apart := false, narrowed := true }
def BoundTellsUptoSaid : Prop := boundTellsUptoRow.holds Tryz.pinned (OpenSpec.upto boundTellsSpec)

/-- 'kevellaw40.LibApart', WHERE WHAT IT READS IS OF BULK AT MOST 1048576: true; the input reads as it did. -/
def libApartUptoRow : OpenClaim := { program := "ytponihangpiooaagreat", sum := "4eec61e26e0c89761915b7f4f20ea964d1430cb3312efc78dd31b78bf99ddab9", func := "kevel/kevellaw40.LibApart", spec := "libApart", unfollowed := true, recurses := true, apart := false, narrowed := true }
def LibApartUptoSaid : Prop := libApartUptoRow.holds Tryz.pinned (OpenSpec.upto libApartSpec)

/-- 'kevellaw42.WorldNobody', WHERE WHAT IT READS IS OF BULK AT MOST 1048576: true; the input reads as it did. -/
def worldNobodyUptoRow : OpenClaim := { program := "ytponihangpiooaagreat", sum := "4eec61e26e0c89761915b7f4f20ea964d1430cb3312efc78dd31b78bf99ddab9", func := "kevel/kevellaw42.WorldNobody", spec := "worldNobody", unfollowed := true, recurses := true, apart := false, narrowed := true }
def WorldNobodyUptoSaid : Prop := worldNobodyUptoRow.holds Tryz.pinned (OpenSpec.upto worldNobodySpec)

/-- 'kevellaw42.WorldTurns', WHERE WHAT IT READS IS OF BULK AT MOST 1048576: true; the input reads as it did. -/
def worldTurnsUptoRow : OpenClaim := { program := "ytponihangpiooaagreat", sum := "4eec61e26e0c89761915b7f4f20ea964d1430cb3312efc78dd31b78bf99ddab9", func := "kevel/kevellaw42.WorldTurns", spec := "worldTurns", unfollowed := true, recurses := true, apart := false, narrowed := true }
def WorldTurnsUptoSaid : Prop := worldTurnsUptoRow.holds Tryz.pinned (OpenSpec.upto worldTurnsSpec)

end Rows
end Go.Proofs.YtponihangpiooaaGreat
