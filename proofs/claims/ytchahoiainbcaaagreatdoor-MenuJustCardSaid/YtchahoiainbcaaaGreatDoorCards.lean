/-
  DERIVED. GIVEN WITH THE SEED: THE CARDS: each row of YtchahoiainbcaaaGreatDoorRows.lean that lists a variable, with what it lists TIED to the program's text (the seventh form; the later family's looks); each row that meets fmt, with fmt's text TOLD by the authors' own Lean function (tested against real Go, not proved from fmt's source: count such statements apart). THE CARD IS WHAT COUNTS. Prove the row's statement (the work); the ties are given (YtchahoiainbcaaaGreatDoorTie.lean); close each card by the builder's one call (the guide's Derived/Test/ToyasCard.lean, 'card_holds'). Laid BY PROGRAM, IN A SANDBOX (cutbox-door.mjs). By AI agents, Wed Nov 11 2026. No macro, syntax, notation, axiom, sorry.
-/
import Derived.Test.YtchahoiainbcaaaGreatDoorRows
import GoSem.ClaimSeven
namespace Go.Proofs.YtchahoiainbcaaaGreatDoor
namespace Rows

/-- THE TIED CARD OF 'kevellaw56.MenuJust'. -/
def menuJustCard : Claim7 := { stood := { row := menuJustRow, standIns := [], harness := (true, "e633f32bd8304f3bb26c7709d51149e1c1c1054156a7a60572ec7f0080b8174b"), looks := false }, kinds := [], alts := [], laidByText := true, laidKinds := [.data, .data, .data], laidTests := true, laidLooks := .later }
def MenuJustCardSaid : Prop := Claim7.holds Tryz.pinned (.plain (OpenSpec.ofChange menuJustSpec)) menuJustCard

/-- THE SECOND FORM's CARD OF 'kevellaw56.MenuJust'. -/
def menuJustUptoCard : Claim7 := { stood := { row := menuJustUptoRow, standIns := [], harness := (true, "e633f32bd8304f3bb26c7709d51149e1c1c1054156a7a60572ec7f0080b8174b"), looks := false }, kinds := [], alts := [], laidByText := true, laidKinds := [.data, .data, .data], laidTests := true, laidLooks := .later }
def MenuJustUptoCardSaid : Prop := Claim7.holds Tryz.pinned (.plain (OpenSpec.upto menuJustSpec)) menuJustUptoCard
end Rows
end Go.Proofs.YtchahoiainbcaaaGreatDoor
