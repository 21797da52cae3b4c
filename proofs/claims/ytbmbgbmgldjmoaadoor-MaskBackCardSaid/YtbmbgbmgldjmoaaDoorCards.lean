/-
  DERIVED. GIVEN WITH THE SEED: THE CARDS: each row of YtbmbgbmgldjmoaaDoorRows.lean that lists a variable, with what it lists TIED to the program's text (the seventh form; the later family's looks); each row that meets fmt, with fmt's text TOLD by the authors' own Lean function (tested against real Go, not proved from fmt's source: count such statements apart). THE CARD IS WHAT COUNTS. Prove the row's statement (the work); the ties are given (YtbmbgbmgldjmoaaDoorTie.lean); close each card by the builder's one call (the guide's Derived/Test/ToyasCard.lean, 'card_holds'). Laid BY PROGRAM, IN A SANDBOX (cutbox-door.mjs). By AI agents, Wed Nov 11 2026. No macro, syntax, notation, axiom, sorry.
-/
import Derived.Test.YtbmbgbmgldjmoaaDoorRows
import GoSem.ClaimSeven
namespace Go.Proofs.YtbmbgbmgldjmoaaDoor
namespace Rows

/-- THE TIED CARD OF 'kevellaw52.SnaplinMade'. -/
def snaplinMadeCard : Claim7 := { stood := { row := snaplinMadeRow, standIns := [], harness := (true, "6413dd44ac427648c33a645054f810c0c2a5b800ecf7ae7793b6edc79ccdfc38"), looks := false }, kinds := [], alts := [], laidByText := true, laidKinds := [.data], laidTests := true, laidLooks := .later }
def SnaplinMadeCardSaid : Prop := Claim7.holds Tryd.pinned (.plain (OpenSpec.ofChange snaplinMadeSpec)) snaplinMadeCard

/-- THE TIED CARD OF 'kevellaw01.NumsTells'. -/
def numsTellsCard : Claim7 := { stood := { row := numsTellsRow, standIns := [], harness := (true, "6413dd44ac427648c33a645054f810c0c2a5b800ecf7ae7793b6edc79ccdfc38"), looks := false }, kinds := [], alts := [], laidByText := true, laidKinds := [.data, .data, .data], laidTests := true, laidLooks := .later }
def NumsTellsCardSaid : Prop := Claim7.holds Tryd.pinned (.plain (OpenSpec.ofChange numsTellsSpec)) numsTellsCard

/-- THE TIED CARD OF 'kevellaw01.NumsBack'. -/
def numsBackCard : Claim7 := { stood := { row := numsBackRow, standIns := [], harness := (true, "6413dd44ac427648c33a645054f810c0c2a5b800ecf7ae7793b6edc79ccdfc38"), looks := false }, kinds := [], alts := [], laidByText := true, laidKinds := [.data, .data, .data], laidTests := true, laidLooks := .later }
def NumsBackCardSaid : Prop := Claim7.holds Tryd.pinned (.plain (OpenSpec.ofChange numsBackSpec)) numsBackCard

/-- THE TIED CARD OF 'kevellaw01.NumsRound'. -/
def numsRoundCard : Claim7 := { stood := { row := numsRoundRow, standIns := [], harness := (true, "6413dd44ac427648c33a645054f810c0c2a5b800ecf7ae7793b6edc79ccdfc38"), looks := false }, kinds := [], alts := [], laidByText := true, laidKinds := [.data, .data, .data], laidTests := true, laidLooks := .later }
def NumsRoundCardSaid : Prop := Claim7.holds Tryd.pinned (.plain (OpenSpec.ofChange numsRoundSpec)) numsRoundCard

/-- THE TIED CARD OF 'kevellaw02.MaskBack'. -/
def maskBackCard : Claim7 := { stood := { row := maskBackRow, standIns := [], harness := (true, "6413dd44ac427648c33a645054f810c0c2a5b800ecf7ae7793b6edc79ccdfc38"), looks := false }, kinds := [], alts := [], laidByText := true, laidKinds := [.data, .data, .data], laidTests := true, laidLooks := .later }
def MaskBackCardSaid : Prop := Claim7.holds Tryd.pinned (.plain (OpenSpec.ofChange maskBackSpec)) maskBackCard

/-- THE TIED CARD OF 'kevellaw02.MaskOf'. -/
def maskOfCard : Claim7 := { stood := { row := maskOfRow, standIns := [], harness := (true, "6413dd44ac427648c33a645054f810c0c2a5b800ecf7ae7793b6edc79ccdfc38"), looks := false }, kinds := [], alts := [], laidByText := true, laidKinds := [.data, .data, .data], laidTests := true, laidLooks := .later }
def MaskOfCardSaid : Prop := Claim7.holds Tryd.pinned (.plain (OpenSpec.ofChange maskOfSpec)) maskOfCard

/-- THE TIED CARD OF 'kevellaw02.MaskTells'. -/
def maskTellsCard : Claim7 := { stood := { row := maskTellsRow, standIns := [], harness := (true, "6413dd44ac427648c33a645054f810c0c2a5b800ecf7ae7793b6edc79ccdfc38"), looks := false }, kinds := [], alts := [], laidByText := true, laidKinds := [.data, .data, .data], laidTests := true, laidLooks := .later }
def MaskTellsCardSaid : Prop := Claim7.holds Tryd.pinned (.plain (OpenSpec.ofChange maskTellsSpec)) maskTellsCard

/-- THE TIED CARD OF 'kevellaw49.RemoteAdds'. -/
def remoteAddsCard : Claim7 := { stood := { row := remoteAddsRow, standIns := [], harness := (true, "6413dd44ac427648c33a645054f810c0c2a5b800ecf7ae7793b6edc79ccdfc38"), looks := false }, kinds := [], alts := [], laidByText := true, laidKinds := [.data, .data, .data], laidTests := true, laidLooks := .later }
def RemoteAddsCardSaid : Prop := Claim7.holds Tryd.pinned (.plain (OpenSpec.ofChange remoteAddsSpec)) remoteAddsCard

/-- THE TIED CARD OF 'kevellaw04.PlaneGoes'. -/
def planeGoesCard : Claim7 := { stood := { row := planeGoesRow, standIns := [], harness := (true, "6413dd44ac427648c33a645054f810c0c2a5b800ecf7ae7793b6edc79ccdfc38"), looks := false }, kinds := [], alts := [], laidByText := true, laidKinds := [.data, .data, .data], laidTests := true, laidLooks := .later }
def PlaneGoesCardSaid : Prop := Claim7.holds Tryd.pinned (.plain (OpenSpec.ofChange planeGoesSpec)) planeGoesCard

/-- THE TIED CARD OF 'kevellaw04.PlaneTells'. -/
def planeTellsCard : Claim7 := { stood := { row := planeTellsRow, standIns := [], harness := (true, "6413dd44ac427648c33a645054f810c0c2a5b800ecf7ae7793b6edc79ccdfc38"), looks := false }, kinds := [], alts := [], laidByText := true, laidKinds := [.data, .data, .data], laidTests := true, laidLooks := .later }
def PlaneTellsCardSaid : Prop := Claim7.holds Tryd.pinned (.plain (OpenSpec.ofChange planeTellsSpec)) planeTellsCard

/-- THE TIED CARD OF 'kevellaw04.PlaneBack'. -/
def planeBackCard : Claim7 := { stood := { row := planeBackRow, standIns := [], harness := (true, "6413dd44ac427648c33a645054f810c0c2a5b800ecf7ae7793b6edc79ccdfc38"), looks := false }, kinds := [], alts := [], laidByText := true, laidKinds := [.data, .data, .data], laidTests := true, laidLooks := .later }
def PlaneBackCardSaid : Prop := Claim7.holds Tryd.pinned (.plain (OpenSpec.ofChange planeBackSpec)) planeBackCard

/-- THE SECOND FORM's CARD OF 'kevellaw52.SnaplinMade'. -/
def snaplinMadeUptoCard : Claim7 := { stood := { row := snaplinMadeUptoRow, standIns := [], harness := (true, "6413dd44ac427648c33a645054f810c0c2a5b800ecf7ae7793b6edc79ccdfc38"), looks := false }, kinds := [], alts := [], laidByText := true, laidKinds := [.data], laidTests := true, laidLooks := .later }
def SnaplinMadeUptoCardSaid : Prop := Claim7.holds Tryd.pinned (.plain (OpenSpec.upto snaplinMadeSpec)) snaplinMadeUptoCard

/-- THE SECOND FORM's CARD OF 'kevellaw01.NumsTells'. -/
def numsTellsUptoCard : Claim7 := { stood := { row := numsTellsUptoRow, standIns := [], harness := (true, "6413dd44ac427648c33a645054f810c0c2a5b800ecf7ae7793b6edc79ccdfc38"), looks := false }, kinds := [], alts := [], laidByText := true, laidKinds := [.data, .data, .data], laidTests := true, laidLooks := .later }
def NumsTellsUptoCardSaid : Prop := Claim7.holds Tryd.pinned (.plain (OpenSpec.upto numsTellsSpec)) numsTellsUptoCard

/-- THE SECOND FORM's CARD OF 'kevellaw01.NumsBack'. -/
def numsBackUptoCard : Claim7 := { stood := { row := numsBackUptoRow, standIns := [], harness := (true, "6413dd44ac427648c33a645054f810c0c2a5b800ecf7ae7793b6edc79ccdfc38"), looks := false }, kinds := [], alts := [], laidByText := true, laidKinds := [.data, .data, .data], laidTests := true, laidLooks := .later }
def NumsBackUptoCardSaid : Prop := Claim7.holds Tryd.pinned (.plain (OpenSpec.upto numsBackSpec)) numsBackUptoCard

/-- THE SECOND FORM's CARD OF 'kevellaw01.NumsRound'. -/
def numsRoundUptoCard : Claim7 := { stood := { row := numsRoundUptoRow, standIns := [], harness := (true, "6413dd44ac427648c33a645054f810c0c2a5b800ecf7ae7793b6edc79ccdfc38"), looks := false }, kinds := [], alts := [], laidByText := true, laidKinds := [.data, .data, .data], laidTests := true, laidLooks := .later }
def NumsRoundUptoCardSaid : Prop := Claim7.holds Tryd.pinned (.plain (OpenSpec.upto numsRoundSpec)) numsRoundUptoCard

/-- THE SECOND FORM's CARD OF 'kevellaw02.MaskBack'. -/
def maskBackUptoCard : Claim7 := { stood := { row := maskBackUptoRow, standIns := [], harness := (true, "6413dd44ac427648c33a645054f810c0c2a5b800ecf7ae7793b6edc79ccdfc38"), looks := false }, kinds := [], alts := [], laidByText := true, laidKinds := [.data, .data, .data], laidTests := true, laidLooks := .later }
def MaskBackUptoCardSaid : Prop := Claim7.holds Tryd.pinned (.plain (OpenSpec.upto maskBackSpec)) maskBackUptoCard

/-- THE SECOND FORM's CARD OF 'kevellaw02.MaskOf'. -/
def maskOfUptoCard : Claim7 := { stood := { row := maskOfUptoRow, standIns := [], harness := (true, "6413dd44ac427648c33a645054f810c0c2a5b800ecf7ae7793b6edc79ccdfc38"), looks := false }, kinds := [], alts := [], laidByText := true, laidKinds := [.data, .data, .data], laidTests := true, laidLooks := .later }
def MaskOfUptoCardSaid : Prop := Claim7.holds Tryd.pinned (.plain (OpenSpec.upto maskOfSpec)) maskOfUptoCard

/-- THE SECOND FORM's CARD OF 'kevellaw02.MaskTells'. -/
def maskTellsUptoCard : Claim7 := { stood := { row := maskTellsUptoRow, standIns := [], harness := (true, "6413dd44ac427648c33a645054f810c0c2a5b800ecf7ae7793b6edc79ccdfc38"), looks := false }, kinds := [], alts := [], laidByText := true, laidKinds := [.data, .data, .data], laidTests := true, laidLooks := .later }
def MaskTellsUptoCardSaid : Prop := Claim7.holds Tryd.pinned (.plain (OpenSpec.upto maskTellsSpec)) maskTellsUptoCard

/-- THE SECOND FORM's CARD OF 'kevellaw49.RemoteAdds'. -/
def remoteAddsUptoCard : Claim7 := { stood := { row := remoteAddsUptoRow, standIns := [], harness := (true, "6413dd44ac427648c33a645054f810c0c2a5b800ecf7ae7793b6edc79ccdfc38"), looks := false }, kinds := [], alts := [], laidByText := true, laidKinds := [.data, .data, .data], laidTests := true, laidLooks := .later }
def RemoteAddsUptoCardSaid : Prop := Claim7.holds Tryd.pinned (.plain (OpenSpec.upto remoteAddsSpec)) remoteAddsUptoCard

/-- THE SECOND FORM's CARD OF 'kevellaw04.PlaneGoes'. -/
def planeGoesUptoCard : Claim7 := { stood := { row := planeGoesUptoRow, standIns := [], harness := (true, "6413dd44ac427648c33a645054f810c0c2a5b800ecf7ae7793b6edc79ccdfc38"), looks := false }, kinds := [], alts := [], laidByText := true, laidKinds := [.data, .data, .data], laidTests := true, laidLooks := .later }
def PlaneGoesUptoCardSaid : Prop := Claim7.holds Tryd.pinned (.plain (OpenSpec.upto planeGoesSpec)) planeGoesUptoCard

/-- THE SECOND FORM's CARD OF 'kevellaw04.PlaneTells'. -/
def planeTellsUptoCard : Claim7 := { stood := { row := planeTellsUptoRow, standIns := [], harness := (true, "6413dd44ac427648c33a645054f810c0c2a5b800ecf7ae7793b6edc79ccdfc38"), looks := false }, kinds := [], alts := [], laidByText := true, laidKinds := [.data, .data, .data], laidTests := true, laidLooks := .later }
def PlaneTellsUptoCardSaid : Prop := Claim7.holds Tryd.pinned (.plain (OpenSpec.upto planeTellsSpec)) planeTellsUptoCard

/-- THE SECOND FORM's CARD OF 'kevellaw04.PlaneBack'. -/
def planeBackUptoCard : Claim7 := { stood := { row := planeBackUptoRow, standIns := [], harness := (true, "6413dd44ac427648c33a645054f810c0c2a5b800ecf7ae7793b6edc79ccdfc38"), looks := false }, kinds := [], alts := [], laidByText := true, laidKinds := [.data, .data, .data], laidTests := true, laidLooks := .later }
def PlaneBackUptoCardSaid : Prop := Claim7.holds Tryd.pinned (.plain (OpenSpec.upto planeBackSpec)) planeBackUptoCard
end Rows
end Go.Proofs.YtbmbgbmgldjmoaaDoor
