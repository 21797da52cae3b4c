/-
  No cell of these rows narrows 'for every input' (looked for: loops, veiled, ifaces, maps, wideKeys, modest, calm, conditions, laid).
  DERIVED. THE GIVEN ROWS OF THIS SEAT. 9 by the template 'for every input the law returns true; each argument reads behind the call as it read before'; 0 by the template 'total and deterministic' (their statements: YtbaajjkopdjbgaaGreatTotals.lean).
  GIVEN WITH THE SEED: the statements are not yours to turn. If you find one false, say at which input.
  Laid BY PROGRAM, IN A SANDBOX (cutbox-rows.mjs): the forced cells as the released guide's own fill.sh prints them over the translation dfaba8b811a4c636… (all of the seat's roots in one cut). By AI agents, Wed Nov 11 2026. No macro, syntax, notation, axiom, sorry.
-/
import Derived.Test.YtbaajjkopdjbgaaGreatChecked
import GoSem.Claim
import GoSem.ClaimJoined
import GoSem.ClaimMapViews
import Derived.JoinedTies
import Derived.KernelRfl
namespace Go.Proofs.YtbaajjkopdjbgaaGreat
/- THE CELL 'sum', in the pinned program and in every row, IS THE sha256 OF THE DUMP (.gsa) THAT YtbaajjkopdjbgaaGreatProg.lean LOADS. Nothing in Lean hashes anything: it is a label: what it is worth is what the hold of that sum in a sandbox is worth. -/
noncomputable def Tryz.pinned : Pinned := { name := "ytbaajjkopdjbgaagreat", sum := "dfaba8b811a4c636779241196d937186a8594a50340045beacd0b02a4ee2d5e5", checked := Tryz.checked }
namespace Rows
def none {H : Type} : Left H := { results := [], args := [] }

/-- 'kevellaw33.AdaptAlone': WHATEVER THE INPUT: true; the input reads as it did. -/
def adaptAloneSpec : ChangeSpec := { name := "adaptAlone", fn := fun _ => fun
  | [d1, d2] => { results := [.lit (.bool true)], args := [d1, d2] }
  | _ => none }
def adaptAloneRow : OpenClaim := { program := "ytbaajjkopdjbgaagreat", sum := "dfaba8b811a4c636779241196d937186a8594a50340045beacd0b02a4ee2d5e5", func := "kevel/kevellaw33.AdaptAlone", spec := "adaptAlone", unfollowed := true, recurses := true, apart := false }
def AdaptAloneSaid : Prop := adaptAloneRow.holds Tryz.pinned (OpenSpec.ofChange adaptAloneSpec)

/-- ITS FALSE NEIGHBOUR: 'it returns false'. Refute it at one input. -/
def adaptAloneWrong : ChangeSpec := { name := "adaptAlone", fn := fun _ => fun
  | [d1, d2] => { results := [.lit (.bool false)], args := [d1, d2] }
  | _ => none }
def AdaptAloneWrongFalsely : Prop := adaptAloneRow.holds Tryz.pinned (OpenSpec.ofChange adaptAloneWrong)

/-- 'kevellaw34.LockPlays': WHATEVER THE INPUT: true; the input reads as it did. -/
def lockPlaysSpec : ChangeSpec := { name := "lockPlays", fn := fun _ => fun
  | [d1, d2, d3] => { results := [.lit (.bool true)], args := [d1, d2, d3] }
  | _ => none }
def lockPlaysRow : OpenClaim := { program := "ytbaajjkopdjbgaagreat", sum := "dfaba8b811a4c636779241196d937186a8594a50340045beacd0b02a4ee2d5e5", func := "kevel/kevellaw34.LockPlays", spec := "lockPlays", unfollowed := true, recurses := true, apart := false }
def LockPlaysSaid : Prop := lockPlaysRow.holds Tryz.pinned (OpenSpec.ofChange lockPlaysSpec)

/-- ITS FALSE NEIGHBOUR: 'it returns false'. Refute it at one input. -/
def lockPlaysWrong : ChangeSpec := { name := "lockPlays", fn := fun _ => fun
  | [d1, d2, d3] => { results := [.lit (.bool false)], args := [d1, d2, d3] }
  | _ => none }
def LockPlaysWrongFalsely : Prop := lockPlaysRow.holds Tryz.pinned (OpenSpec.ofChange lockPlaysWrong)

/-- 'kevellaw34.LockAlone': WHATEVER THE INPUT: true; the input reads as it did. -/
def lockAloneSpec : ChangeSpec := { name := "lockAlone", fn := fun _ => fun
  | [d1, d2] => { results := [.lit (.bool true)], args := [d1, d2] }
  | _ => none }
def lockAloneRow : OpenClaim := { program := "ytbaajjkopdjbgaagreat", sum := "dfaba8b811a4c636779241196d937186a8594a50340045beacd0b02a4ee2d5e5", func := "kevel/kevellaw34.LockAlone", spec := "lockAlone", unfollowed := true, recurses := true, apart := false }
def LockAloneSaid : Prop := lockAloneRow.holds Tryz.pinned (OpenSpec.ofChange lockAloneSpec)

/-- ITS FALSE NEIGHBOUR: 'it returns false'. Refute it at one input. -/
def lockAloneWrong : ChangeSpec := { name := "lockAlone", fn := fun _ => fun
  | [d1, d2] => { results := [.lit (.bool false)], args := [d1, d2] }
  | _ => none }
def LockAloneWrongFalsely : Prop := lockAloneRow.holds Tryz.pinned (OpenSpec.ofChange lockAloneWrong)

/-- 'kevellaw35.MutexPlays': WHATEVER THE INPUT: true; the input reads as it did. -/
def mutexPlaysSpec : ChangeSpec := { name := "mutexPlays", fn := fun _ => fun
  | [d] => { results := [.lit (.bool true)], args := [d] }
  | _ => none }
def mutexPlaysRow : OpenClaim := { program := "ytbaajjkopdjbgaagreat", sum := "dfaba8b811a4c636779241196d937186a8594a50340045beacd0b02a4ee2d5e5", func := "kevel/kevellaw35.MutexPlays", spec := "mutexPlays", unfollowed := true, recurses := true, apart := false }
def MutexPlaysSaid : Prop := mutexPlaysRow.holds Tryz.pinned (OpenSpec.ofChange mutexPlaysSpec)

/-- ITS FALSE NEIGHBOUR: 'it returns false'. Refute it at one input. -/
def mutexPlaysWrong : ChangeSpec := { name := "mutexPlays", fn := fun _ => fun
  | [d] => { results := [.lit (.bool false)], args := [d] }
  | _ => none }
def MutexPlaysWrongFalsely : Prop := mutexPlaysRow.holds Tryz.pinned (OpenSpec.ofChange mutexPlaysWrong)

/-- 'kevellaw35.MutexMisuse': WHATEVER THE INPUT: true; the input reads as it did. -/
def mutexMisuseSpec : ChangeSpec := { name := "mutexMisuse", fn := fun _ => fun
  | [d1, d2, d3] => { results := [.lit (.bool true)], args := [d1, d2, d3] }
  | _ => none }
def mutexMisuseRow : OpenClaim := { program := "ytbaajjkopdjbgaagreat", sum := "dfaba8b811a4c636779241196d937186a8594a50340045beacd0b02a4ee2d5e5", func := "kevel/kevellaw35.MutexMisuse", spec := "mutexMisuse", unfollowed := true, recurses := true, apart := false }
def MutexMisuseSaid : Prop := mutexMisuseRow.holds Tryz.pinned (OpenSpec.ofChange mutexMisuseSpec)

/-- ITS FALSE NEIGHBOUR: 'it returns false'. Refute it at one input. -/
def mutexMisuseWrong : ChangeSpec := { name := "mutexMisuse", fn := fun _ => fun
  | [d1, d2, d3] => { results := [.lit (.bool false)], args := [d1, d2, d3] }
  | _ => none }
def MutexMisuseWrongFalsely : Prop := mutexMisuseRow.holds Tryz.pinned (OpenSpec.ofChange mutexMisuseWrong)

/-- 'kevellaw36.SemaPlays': WHATEVER THE INPUT: true; the input reads as it did. -/
def semaPlaysSpec : ChangeSpec := { name := "semaPlays", fn := fun _ => fun
  | [d] => { results := [.lit (.bool true)], args := [d] }
  | _ => none }
def semaPlaysRow : OpenClaim := { program := "ytbaajjkopdjbgaagreat", sum := "dfaba8b811a4c636779241196d937186a8594a50340045beacd0b02a4ee2d5e5", func := "kevel/kevellaw36.SemaPlays", spec := "semaPlays", unfollowed := true, recurses := true, apart := false }
def SemaPlaysSaid : Prop := semaPlaysRow.holds Tryz.pinned (OpenSpec.ofChange semaPlaysSpec)

/-- ITS FALSE NEIGHBOUR: 'it returns false'. Refute it at one input. -/
def semaPlaysWrong : ChangeSpec := { name := "semaPlays", fn := fun _ => fun
  | [d] => { results := [.lit (.bool false)], args := [d] }
  | _ => none }
def SemaPlaysWrongFalsely : Prop := semaPlaysRow.holds Tryz.pinned (OpenSpec.ofChange semaPlaysWrong)

/-- 'kevellaw38.RwPlays': WHATEVER THE INPUT: true; the input reads as it did. -/
def rwPlaysSpec : ChangeSpec := { name := "rwPlays", fn := fun _ => fun
  | [d] => { results := [.lit (.bool true)], args := [d] }
  | _ => none }
def rwPlaysRow : OpenClaim := { program := "ytbaajjkopdjbgaagreat", sum := "dfaba8b811a4c636779241196d937186a8594a50340045beacd0b02a4ee2d5e5", func := "kevel/kevellaw38.RwPlays", spec := "rwPlays", unfollowed := true, recurses := true, apart := false }
def RwPlaysSaid : Prop := rwPlaysRow.holds Tryz.pinned (OpenSpec.ofChange rwPlaysSpec)

/-- ITS FALSE NEIGHBOUR: 'it returns false'. Refute it at one input. -/
def rwPlaysWrong : ChangeSpec := { name := "rwPlays", fn := fun _ => fun
  | [d] => { results := [.lit (.bool false)], args := [d] }
  | _ => none }
def RwPlaysWrongFalsely : Prop := rwPlaysRow.holds Tryz.pinned (OpenSpec.ofChange rwPlaysWrong)

/-- 'kevellaw36.SemaRow': WHATEVER THE INPUT: true; the input reads as it did. -/
def semaRowSpec : ChangeSpec := { name := "semaRow", fn := fun _ => fun
  | [d1, d2, d3] => { results := [.lit (.bool true)], args := [d1, d2, d3] }
  | _ => none }
def semaRowRow : OpenClaim := { program := "ytbaajjkopdjbgaagreat", sum := "dfaba8b811a4c636779241196d937186a8594a50340045beacd0b02a4ee2d5e5", func := "kevel/kevellaw36.SemaRow", spec := "semaRow", unfollowed := true, recurses := true, apart := false }
def SemaRowSaid : Prop := semaRowRow.holds Tryz.pinned (OpenSpec.ofChange semaRowSpec)

/-- ITS FALSE NEIGHBOUR: 'it returns false'. Refute it at one input. -/
def semaRowWrong : ChangeSpec := { name := "semaRow", fn := fun _ => fun
  | [d1, d2, d3] => { results := [.lit (.bool false)], args := [d1, d2, d3] }
  | _ => none }
def SemaRowWrongFalsely : Prop := semaRowRow.holds Tryz.pinned (OpenSpec.ofChange semaRowWrong)

/-- 'kevellaw38.RwRow': WHATEVER THE INPUT: true; the input reads as it did. -/
def rwRowSpec : ChangeSpec := { name := "rwRow", fn := fun _ => fun
  | [d1, d2] => { results := [.lit (.bool true)], args := [d1, d2] }
  | _ => none }
def rwRowRow : OpenClaim := { program := "ytbaajjkopdjbgaagreat", sum := "dfaba8b811a4c636779241196d937186a8594a50340045beacd0b02a4ee2d5e5", func := "kevel/kevellaw38.RwRow", spec := "rwRow", unfollowed := true, recurses := true, apart := false }
def RwRowSaid : Prop := rwRowRow.holds Tryz.pinned (OpenSpec.ofChange rwRowSpec)

/-- ITS FALSE NEIGHBOUR: 'it returns false'. Refute it at one input. -/
def rwRowWrong : ChangeSpec := { name := "rwRow", fn := fun _ => fun
  | [d1, d2] => { results := [.lit (.bool false)], args := [d1, d2] }
  | _ => none }
def RwRowWrongFalsely : Prop := rwRowRow.holds Tryz.pinned (OpenSpec.ofChange rwRowWrong)

/- THE SECOND FORM. 'bulk': how many values and letters a reading holds, each counted each time it is reached (what is shared counts as often as it is met; a slice's spare places count too). A statement '..UptoSaid' is the law's where the arguments, and the package variables that the reading takes, are together of bulk at most 1048576: NARROWER than '..Said'. Prove '..Said' where nothing that the law and all that it calls make is longer than what came in: it says more and counts as full. Else prove '..UptoSaid'. A law counts once. -/
mutual
def uptoBulk {H : Type} : DataW H → Nat
  | .lit (.string bytes) => bytes.length + 1
  | .lit _ => 1
  | .nil => 1
  | .ptr d => uptoBulk d + 1
  | .slice elems spare => uptoBulkAll elems + uptoBulkAll spare + 1
  | .agg parts => uptoBulkAll parts + 1
  | .iface _ d => uptoBulk d + 1
  | .map entries => uptoBulkEntries entries + 1
  | .held _ => 1
def uptoBulkAll {H : Type} : List (DataW H) → Nat
  | [] => 0
  | d :: r => uptoBulk d + uptoBulkAll r
def uptoBulkEntries {H : Type} : List (Lit × DataW H) → Nat
  | [] => 0
  | x :: r => uptoBulkEntry x + uptoBulkEntries r
def uptoBulkEntry {H : Type} : Lit × DataW H → Nat
  | (.string bytes, d) => bytes.length + uptoBulk d + 1
  | (_, d) => uptoBulk d + 1
 end
def uptoSmall : (H : Type) → List (DataW H) → Bool := fun _ ds => decide (uptoBulkAll ds ≤ 1048576)
def OpenSpec.upto (s : _root_.Go.ChangeSpec) : _root_.Go.OpenSpec := { _root_.Go.OpenSpec.ofChange s with cond := some uptoSmall }

/-- 'kevellaw33.AdaptAlone', WHERE WHAT IT READS IS OF BULK AT MOST 1048576: true; the input reads as it did. -/
def adaptAloneUptoRow : OpenClaim := { program := "ytbaajjkopdjbgaagreat", sum := "dfaba8b811a4c636779241196d937186a8594a50340045beacd0b02a4ee2d5e5", func := "kevel/kevellaw33.AdaptAlone", spec := "adaptAlone", unfollowed := true, recurses := true, apart := false, narrowed := true }
def AdaptAloneUptoSaid : Prop := adaptAloneUptoRow.holds Tryz.pinned (OpenSpec.upto adaptAloneSpec)

/-- 'kevellaw34.LockPlays', WHERE WHAT IT READS IS OF BULK AT MOST 1048576: true; the input reads as it did. -/
def lockPlaysUptoRow : OpenClaim := { program := "ytbaajjkopdjbgaagreat", sum := "dfaba8b811a4c636779241196d937186a8594a50340045beacd0b02a4ee2d5e5", func := "kevel/kevellaw34.LockPlays", spec := "lockPlays", unfollowed := true, recurses := true, apart := false, narrowed := true }
def LockPlaysUptoSaid : Prop := lockPlaysUptoRow.holds Tryz.pinned (OpenSpec.upto lockPlaysSpec)

/-- 'kevellaw34.LockAlone', WHERE WHAT IT READS IS OF BULK AT MOST 1048576: true; the input reads as it did. -/
def lockAloneUptoRow : OpenClaim := { program := "ytbaajjkopdjbgaagreat", sum := "dfaba8b811a4c636779241196d937186a8594a50340045beacd0b02a4ee2d5e5", func := "kevel/kevellaw34.LockAlone", spec := "lockAlone", unfollowed := true, recurses := true, apart := false, narrowed := true }
def LockAloneUptoSaid : Prop := lockAloneUptoRow.holds Tryz.pinned (OpenSpec.upto lockAloneSpec)

/-- 'kevellaw35.MutexPlays', WHERE WHAT IT READS IS OF BULK AT MOST 1048576: true; the input reads as it did. -/
def mutexPlaysUptoRow : OpenClaim := { program := "ytbaajjkopdjbgaagreat", sum := "dfaba8b811a4c636779241196d937186a8594a50340045beacd0b02a4ee2d5e5", func := "kevel/kevellaw35.MutexPlays", spec := "mutexPlays", unfollowed := true, recurses := true, apart := false, narrowed := true }
def MutexPlaysUptoSaid : Prop := mutexPlaysUptoRow.holds Tryz.pinned (OpenSpec.upto mutexPlaysSpec)

/-- 'kevellaw35.MutexMisuse', WHERE WHAT IT READS IS OF BULK AT MOST 1048576: true; the input reads as it did. -/
def mutexMisuseUptoRow : OpenClaim := { program := "ytbaajjkopdjbgaagreat", sum := "dfaba8b811a4c636779241196d937186a8594a50340045beacd0b02a4ee2d5e5", func := "kevel/kevellaw35.MutexMisuse", spec := "mutexMisuse", unfollowed := true, recurses := true, apart := false, narrowed := true }
def MutexMisuseUptoSaid : Prop := mutexMisuseUptoRow.holds Tryz.pinned (OpenSpec.upto mutexMisuseSpec)

/-- 'kevellaw36.SemaPlays', WHERE WHAT IT READS IS OF BULK AT MOST 1048576: true; the input reads as it did. -/
def semaPlaysUptoRow : OpenClaim := { program := "ytbaajjkopdjbgaagreat", sum := "dfaba8b811a4c636779241196d937186a8594a50340045beacd0b02a4ee2d5e5", func := "kevel/kevellaw36.SemaPlays", spec := "semaPlays", unfollowed := true, recurses := true, apart := false, narrowed := true }
def SemaPlaysUptoSaid : Prop := semaPlaysUptoRow.holds Tryz.pinned (OpenSpec.upto semaPlaysSpec)

/-- 'kevellaw38.RwPlays', WHERE WHAT IT READS IS OF BULK AT MOST 1048576: true; the input reads as it did. -/
def rwPlaysUptoRow : OpenClaim := { program := "ytbaajjkopdjbgaagreat", sum := "dfaba8b811a4c636779241196d937186a8594a50340045beacd0b02a4ee2d5e5", func := "kevel/kevellaw38.RwPlays", spec := "rwPlays", unfollowed := true, recurses := true, apart := false, narrowed := true }
def RwPlaysUptoSaid : Prop := rwPlaysUptoRow.holds Tryz.pinned (OpenSpec.upto rwPlaysSpec)

/-- 'kevellaw36.SemaRow', WHERE WHAT IT READS IS OF BULK AT MOST 1048576: true; the input reads as it did. -/
def semaRowUptoRow : OpenClaim := { program := "ytbaajjkopdjbgaagreat", sum := "dfaba8b811a4c636779241196d937186a8594a50340045beacd0b02a4ee2d5e5", func := "kevel/kevellaw36.SemaRow", spec := "semaRow", unfollowed := true, recurses := true, apart := false, narrowed := true }
def SemaRowUptoSaid : Prop := semaRowUptoRow.holds Tryz.pinned (OpenSpec.upto semaRowSpec)

/-- 'kevellaw38.RwRow', WHERE WHAT IT READS IS OF BULK AT MOST 1048576: true; the input reads as it did. -/
def rwRowUptoRow : OpenClaim := { program := "ytbaajjkopdjbgaagreat", sum := "dfaba8b811a4c636779241196d937186a8594a50340045beacd0b02a4ee2d5e5", func := "kevel/kevellaw38.RwRow", spec := "rwRow", unfollowed := true, recurses := true, apart := false, narrowed := true }
def RwRowUptoSaid : Prop := rwRowUptoRow.holds Tryz.pinned (OpenSpec.upto rwRowSpec)

end Rows
end Go.Proofs.YtbaajjkopdjbgaaGreat
