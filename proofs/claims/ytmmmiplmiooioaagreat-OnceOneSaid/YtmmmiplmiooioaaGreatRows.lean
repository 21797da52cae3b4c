/-
  No cell of these rows narrows 'for every input' (looked for: loops, veiled, ifaces, maps, wideKeys, modest, calm, conditions, laid).
  DERIVED. THE GIVEN ROWS OF THIS SEAT. 4 by the template 'for every input the law returns true; each argument reads behind the call as it read before'; 0 by the template 'total and deterministic' (their statements: YtmmmiplmiooioaaGreatTotals.lean).
  GIVEN WITH THE SEED: the statements are not yours to turn. If you find one false, say at which input.
  Laid BY PROGRAM, IN A SANDBOX (cutbox-rows.mjs): the forced cells as the released guide's own fill.sh prints them over the translation 1a84b15f7e99d264… (all of the seat's roots in one cut). By AI agents, Wed Nov 11 2026. No macro, syntax, notation, axiom, sorry.
-/
import Derived.Test.YtmmmiplmiooioaaGreatChecked
import GoSem.Claim
import GoSem.ClaimJoined
import GoSem.ClaimMapViews
import Derived.JoinedTies
import Derived.KernelRfl
namespace Go.Proofs.YtmmmiplmiooioaaGreat
/- THE CELL 'sum', in the pinned program and in every row, IS THE sha256 OF THE DUMP (.gsa) THAT YtmmmiplmiooioaaGreatProg.lean LOADS. Nothing in Lean hashes anything: it is a label: what it is worth is what the hold of that sum in a sandbox is worth. -/
noncomputable def Tryz.pinned : Pinned := { name := "ytmmmiplmiooioaagreat", sum := "1a84b15f7e99d2647bb26e0b646a8a89c397c0949131324af5e061499024ff2c", checked := Tryz.checked }
namespace Rows
def none {H : Type} : Left H := { results := [], args := [] }

/-- 'kevellaw39.OnceOne': WHATEVER THE INPUT: true; the input reads as it did. -/
def onceOneSpec : ChangeSpec := { name := "onceOne", fn := fun _ => fun
  | [d1, d2] => { results := [.lit (.bool true)], args := [d1, d2] }
  | _ => none }
def onceOneRow : OpenClaim := { program := "ytmmmiplmiooioaagreat", sum := "1a84b15f7e99d2647bb26e0b646a8a89c397c0949131324af5e061499024ff2c", func := "kevel/kevellaw39.OnceOne", spec := "onceOne", unfollowed := true, recurses := true, apart := false }
def OnceOneSaid : Prop := onceOneRow.holds Tryz.pinned (OpenSpec.ofChange onceOneSpec)

/-- ITS FALSE NEIGHBOUR: 'it returns false'. Refute it at one input. -/
def onceOneWrong : ChangeSpec := { name := "onceOne", fn := fun _ => fun
  | [d1, d2] => { results := [.lit (.bool false)], args := [d1, d2] }
  | _ => none }
def OnceOneWrongFalsely : Prop := onceOneRow.holds Tryz.pinned (OpenSpec.ofChange onceOneWrong)

/-- 'kevellaw37.GateAll': WHATEVER THE INPUT: true; the input reads as it did. -/
def gateAllSpec : ChangeSpec := { name := "gateAll", fn := fun _ => fun
  | [d1, d2] => { results := [.lit (.bool true)], args := [d1, d2] }
  | _ => none }
def gateAllRow : OpenClaim := { program := "ytmmmiplmiooioaagreat", sum := "1a84b15f7e99d2647bb26e0b646a8a89c397c0949131324af5e061499024ff2c", func := "kevel/kevellaw37.GateAll", spec := "gateAll", unfollowed := true, recurses := true, apart := false }
def GateAllSaid : Prop := gateAllRow.holds Tryz.pinned (OpenSpec.ofChange gateAllSpec)

/-- ITS FALSE NEIGHBOUR: 'it returns false'. Refute it at one input. -/
def gateAllWrong : ChangeSpec := { name := "gateAll", fn := fun _ => fun
  | [d1, d2] => { results := [.lit (.bool false)], args := [d1, d2] }
  | _ => none }
def GateAllWrongFalsely : Prop := gateAllRow.holds Tryz.pinned (OpenSpec.ofChange gateAllWrong)

/-- 'kevellaw57.LatchOpens': WHATEVER THE INPUT: true; the input reads as it did. -/
def latchOpensSpec : ChangeSpec := { name := "latchOpens", fn := fun _ => fun
  | [d] => { results := [.lit (.bool true)], args := [d] }
  | _ => none }
def latchOpensRow : OpenClaim := { program := "ytmmmiplmiooioaagreat", sum := "1a84b15f7e99d2647bb26e0b646a8a89c397c0949131324af5e061499024ff2c", func := "kevel/kevellaw57.LatchOpens", spec := "latchOpens", unfollowed := true, recurses := true, apart := false }
def LatchOpensSaid : Prop := latchOpensRow.holds Tryz.pinned (OpenSpec.ofChange latchOpensSpec)

/-- ITS FALSE NEIGHBOUR: 'it returns false'. Refute it at one input. -/
def latchOpensWrong : ChangeSpec := { name := "latchOpens", fn := fun _ => fun
  | [d] => { results := [.lit (.bool false)], args := [d] }
  | _ => none }
def LatchOpensWrongFalsely : Prop := latchOpensRow.holds Tryz.pinned (OpenSpec.ofChange latchOpensWrong)

/-- 'kevellaw58.BufferOrder': WHATEVER THE INPUT: true; the input reads as it did. -/
def bufferOrderSpec : ChangeSpec := { name := "bufferOrder", fn := fun _ => fun
  | [d] => { results := [.lit (.bool true)], args := [d] }
  | _ => none }
def bufferOrderRow : OpenClaim := { program := "ytmmmiplmiooioaagreat", sum := "1a84b15f7e99d2647bb26e0b646a8a89c397c0949131324af5e061499024ff2c", func := "kevel/kevellaw58.BufferOrder", spec := "bufferOrder", unfollowed := true, recurses := true, apart := false }
def BufferOrderSaid : Prop := bufferOrderRow.holds Tryz.pinned (OpenSpec.ofChange bufferOrderSpec)

/-- ITS FALSE NEIGHBOUR: 'it returns false'. Refute it at one input. -/
def bufferOrderWrong : ChangeSpec := { name := "bufferOrder", fn := fun _ => fun
  | [d] => { results := [.lit (.bool false)], args := [d] }
  | _ => none }
def BufferOrderWrongFalsely : Prop := bufferOrderRow.holds Tryz.pinned (OpenSpec.ofChange bufferOrderWrong)

/- THE SECOND FORM. 'bulk': how many values and letters a reading holds, each counted each time it is reached (what is shared counts as often as it is met; a slice's spare places count too). A statement '..UptoSaid' is the law's where the arguments, and the package variables that the reading takes, are together of bulk at most 1048576: NARROWER than '..Said'. Prove '..Said' where nothing that the law and all that it calls make is longer than what came in: it says more and counts as full. Else prove '..UptoSaid'. A law counts once. -/
mutual
def uptoBulk {H : Type} : DataW H → Nat
  | .lit (.string bytes) => bytes.length + 1
  | .lit _ => 1
  | .nil => 1
  | .ptr d => uptoBulk d + 1
  | .slice elems spare => uptoBulkAll elems + uptoBulkAll spare + 1
  | .agg parts => uptoBulkAll parts + 1
  | .iface _ d => uptoBulk d + 1
  | .map entries => uptoBulkEntries entries + 1
  | .held _ => 1
def uptoBulkAll {H : Type} : List (DataW H) → Nat
  | [] => 0
  | d :: r => uptoBulk d + uptoBulkAll r
def uptoBulkEntries {H : Type} : List (Lit × DataW H) → Nat
  | [] => 0
  | x :: r => uptoBulkEntry x + uptoBulkEntries r
def uptoBulkEntry {H : Type} : Lit × DataW H → Nat
  | (.string bytes, d) => bytes.length + uptoBulk d + 1
  | (_, d) => uptoBulk d + 1
 end
def uptoSmall : (H : Type) → List (DataW H) → Bool := fun _ ds => decide (uptoBulkAll ds ≤ 1048576)
def OpenSpec.upto (s : _root_.Go.ChangeSpec) : _root_.Go.OpenSpec := { _root_.Go.OpenSpec.ofChange s with cond := some uptoSmall }

/-- 'kevellaw39.OnceOne', WHERE WHAT IT READS IS OF BULK AT MOST 1048576: true; the input reads as it did. -/
def onceOneUptoRow : OpenClaim := { program := "ytmmmiplmiooioaagreat", sum := "1a84b15f7e99d2647bb26e0b646a8a89c397c0949131324af5e061499024ff2c", func := "kevel/kevellaw39.OnceOne", spec := "onceOne", unfollowed := true, recurses := true, apart := false, narrowed := true }
def OnceOneUptoSaid : Prop := onceOneUptoRow.holds Tryz.pinned (OpenSpec.upto onceOneSpec)

/-- 'kevellaw37.GateAll', WHERE WHAT IT READS IS OF BULK AT MOST 1048576: true; the input reads as it did. -/
def gateAllUptoRow : OpenClaim := { program := "ytmmmiplmiooioaagreat", sum := "1a84b15f7e99d2647bb26e0b646a8a89c397c0949131324af5e061499024ff2c", func := "kevel/kevellaw37.GateAll", spec := "gateAll", unfollowed := true, recurses := true, apart := false, narrowed := true }
def GateAllUptoSaid : Prop := gateAllUptoRow.holds Tryz.pinned (OpenSpec.upto gateAllSpec)

/-- 'kevellaw57.LatchOpens', WHERE WHAT IT READS IS OF BULK AT MOST 1048576: true; the input reads as it did. -/
def latchOpensUptoRow : OpenClaim := { program := "ytmmmiplmiooioaagreat", sum := "1a84b15f7e99d2647bb26e0b646a8a89c397c0949131324af5e061499024ff2c", func := "kevel/kevellaw57.LatchOpens", spec := "latchOpens", unfollowed := true, recurses := true, apart := false, narrowed := true }
def LatchOpensUptoSaid : Prop := latchOpensUptoRow.holds Tryz.pinned (OpenSpec.upto latchOpensSpec)

/-- 'kevellaw58.BufferOrder', WHERE WHAT IT READS IS OF BULK AT MOST 1048576: true; the input reads as it did. -/
def bufferOrderUptoRow : OpenClaim := { program := "ytmmmiplmiooioaagreat", sum := "1a84b15f7e99d2647bb26e0b646a8a89c397c0949131324af5e061499024ff2c", func := "kevel/kevellaw58.BufferOrder", spec := "bufferOrder", unfollowed := true, recurses := true, apart := false, narrowed := true }
def BufferOrderUptoSaid : Prop := bufferOrderUptoRow.holds Tryz.pinned (OpenSpec.upto bufferOrderSpec)

end Rows
end Go.Proofs.YtmmmiplmiooioaaGreat
