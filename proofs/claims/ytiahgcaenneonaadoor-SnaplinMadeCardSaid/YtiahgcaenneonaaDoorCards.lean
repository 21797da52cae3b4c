/-
  DERIVED. GIVEN WITH THE SEED: THE CARDS: each row of YtiahgcaenneonaaDoorRows.lean that lists a variable, with what it lists TIED to the program's text (the seventh form; the later family's looks); each row that meets fmt, with fmt's text TOLD by the authors' own Lean function (tested against real Go, not proved from fmt's source: count such statements apart). THE CARD IS WHAT COUNTS. Prove the row's statement (the work); the ties are given (YtiahgcaenneonaaDoorTie.lean); close each card by the builder's one call (the guide's Derived/Test/ToyasCard.lean, 'card_holds'). Laid BY PROGRAM, IN A SANDBOX (cutbox-door.mjs). By AI agents, Wed Nov 11 2026. No macro, syntax, notation, axiom, sorry.
-/
import Derived.Test.YtiahgcaenneonaaDoorRows
import GoSem.ClaimSeven
namespace Go.Proofs.YtiahgcaenneonaaDoor
namespace Rows

/-- THE TIED CARD OF 'kevellaw52.SnaplinMade'. -/
def snaplinMadeCard : Claim7 := { stood := { row := snaplinMadeRow, standIns := [], harness := (true, "01834feb006effd76f20ec5a37267a9ee46f8900bebab218127c1a8ab381d186"), looks := false }, kinds := [], alts := [], laidByText := true, laidKinds := [.data], laidTests := true, laidLooks := .later }
def SnaplinMadeCardSaid : Prop := Claim7.holds Tryd.pinned (.plain (OpenSpec.ofChange snaplinMadeSpec)) snaplinMadeCard

/-- THE TIED CARD OF 'kevellaw49.RemoteAdds'. -/
def remoteAddsCard : Claim7 := { stood := { row := remoteAddsRow, standIns := [], harness := (true, "01834feb006effd76f20ec5a37267a9ee46f8900bebab218127c1a8ab381d186"), looks := false }, kinds := [], alts := [], laidByText := true, laidKinds := [.data, .data, .data], laidTests := true, laidLooks := .later }
def RemoteAddsCardSaid : Prop := Claim7.holds Tryd.pinned (.plain (OpenSpec.ofChange remoteAddsSpec)) remoteAddsCard

/-- THE TIED CARD OF 'kevellaw04.PlaneTells'. -/
def planeTellsCard : Claim7 := { stood := { row := planeTellsRow, standIns := [], harness := (true, "01834feb006effd76f20ec5a37267a9ee46f8900bebab218127c1a8ab381d186"), looks := false }, kinds := [], alts := [], laidByText := true, laidKinds := [.data, .data, .data], laidTests := true, laidLooks := .later }
def PlaneTellsCardSaid : Prop := Claim7.holds Tryd.pinned (.plain (OpenSpec.ofChange planeTellsSpec)) planeTellsCard

/-- THE TIED CARD OF 'kevellaw04.PlaneGoes'. -/
def planeGoesCard : Claim7 := { stood := { row := planeGoesRow, standIns := [], harness := (true, "01834feb006effd76f20ec5a37267a9ee46f8900bebab218127c1a8ab381d186"), looks := false }, kinds := [], alts := [], laidByText := true, laidKinds := [.data, .data, .data], laidTests := true, laidLooks := .later }
def PlaneGoesCardSaid : Prop := Claim7.holds Tryd.pinned (.plain (OpenSpec.ofChange planeGoesSpec)) planeGoesCard

/-- THE TIED CARD OF 'kevellaw04.PlaneBack'. -/
def planeBackCard : Claim7 := { stood := { row := planeBackRow, standIns := [], harness := (true, "01834feb006effd76f20ec5a37267a9ee46f8900bebab218127c1a8ab381d186"), looks := false }, kinds := [], alts := [], laidByText := true, laidKinds := [.data, .data, .data], laidTests := true, laidLooks := .later }
def PlaneBackCardSaid : Prop := Claim7.holds Tryd.pinned (.plain (OpenSpec.ofChange planeBackSpec)) planeBackCard

/-- THE SECOND FORM's CARD OF 'kevellaw52.SnaplinMade'. -/
def snaplinMadeUptoCard : Claim7 := { stood := { row := snaplinMadeUptoRow, standIns := [], harness := (true, "01834feb006effd76f20ec5a37267a9ee46f8900bebab218127c1a8ab381d186"), looks := false }, kinds := [], alts := [], laidByText := true, laidKinds := [.data], laidTests := true, laidLooks := .later }
def SnaplinMadeUptoCardSaid : Prop := Claim7.holds Tryd.pinned (.plain (OpenSpec.upto snaplinMadeSpec)) snaplinMadeUptoCard

/-- THE SECOND FORM's CARD OF 'kevellaw49.RemoteAdds'. -/
def remoteAddsUptoCard : Claim7 := { stood := { row := remoteAddsUptoRow, standIns := [], harness := (true, "01834feb006effd76f20ec5a37267a9ee46f8900bebab218127c1a8ab381d186"), looks := false }, kinds := [], alts := [], laidByText := true, laidKinds := [.data, .data, .data], laidTests := true, laidLooks := .later }
def RemoteAddsUptoCardSaid : Prop := Claim7.holds Tryd.pinned (.plain (OpenSpec.upto remoteAddsSpec)) remoteAddsUptoCard

/-- THE SECOND FORM's CARD OF 'kevellaw04.PlaneTells'. -/
def planeTellsUptoCard : Claim7 := { stood := { row := planeTellsUptoRow, standIns := [], harness := (true, "01834feb006effd76f20ec5a37267a9ee46f8900bebab218127c1a8ab381d186"), looks := false }, kinds := [], alts := [], laidByText := true, laidKinds := [.data, .data, .data], laidTests := true, laidLooks := .later }
def PlaneTellsUptoCardSaid : Prop := Claim7.holds Tryd.pinned (.plain (OpenSpec.upto planeTellsSpec)) planeTellsUptoCard

/-- THE SECOND FORM's CARD OF 'kevellaw04.PlaneGoes'. -/
def planeGoesUptoCard : Claim7 := { stood := { row := planeGoesUptoRow, standIns := [], harness := (true, "01834feb006effd76f20ec5a37267a9ee46f8900bebab218127c1a8ab381d186"), looks := false }, kinds := [], alts := [], laidByText := true, laidKinds := [.data, .data, .data], laidTests := true, laidLooks := .later }
def PlaneGoesUptoCardSaid : Prop := Claim7.holds Tryd.pinned (.plain (OpenSpec.upto planeGoesSpec)) planeGoesUptoCard

/-- THE SECOND FORM's CARD OF 'kevellaw04.PlaneBack'. -/
def planeBackUptoCard : Claim7 := { stood := { row := planeBackUptoRow, standIns := [], harness := (true, "01834feb006effd76f20ec5a37267a9ee46f8900bebab218127c1a8ab381d186"), looks := false }, kinds := [], alts := [], laidByText := true, laidKinds := [.data, .data, .data], laidTests := true, laidLooks := .later }
def PlaneBackUptoCardSaid : Prop := Claim7.holds Tryd.pinned (.plain (OpenSpec.upto planeBackSpec)) planeBackUptoCard
end Rows
end Go.Proofs.YtiahgcaenneonaaDoor
