/-
  DERIVED. GIVEN WITH THE SEED: THE CARDS: each row of YtbjimmemcmjpcabGreatDoorRows.lean that lists a variable, with what it lists TIED to the program's text (the seventh form; the later family's looks); each row that meets fmt, with fmt's text TOLD by the authors' own Lean function (tested against real Go, not proved from fmt's source: count such statements apart). THE CARD IS WHAT COUNTS. Prove the row's statement (the work); the ties are given (YtbjimmemcmjpcabGreatDoorTie.lean); close each card by the builder's one call (the guide's Derived/Test/ToyasCard.lean, 'card_holds'). Laid BY PROGRAM, IN A SANDBOX (cutbox-door.mjs). By AI agents, Wed Nov 11 2026. No macro, syntax, notation, axiom, sorry.
-/
import Derived.Test.YtbjimmemcmjpcabGreatDoorRows
import GoSem.ClaimSeven
namespace Go.Proofs.YtbjimmemcmjpcabGreatDoor
namespace Rows

/-- THE TIED CARD OF 'tellurionlaw04.CamRetreats'. -/
def camRetreatsCard : Claim7 := { stood := { row := camRetreatsRow, standIns := [], harness := (true, "73d2dc64809cbf09324e5fdae26dd0ed9682f36b83df10a5235fe9abe0127774"), looks := true }, kinds := [], alts := [], laidByText := true, laidKinds := [.data, .data, .data], laidTests := true, laidLooks := .later }
def CamRetreatsCardSaid : Prop := Claim7.holds Tryz.pinned (.plain (OpenSpec.ofChange camRetreatsSpec)) camRetreatsCard

/-- THE TIED CARD OF 'tellurionlaw04.CamMore'. -/
def camMoreCard : Claim7 := { stood := { row := camMoreRow, standIns := [], harness := (true, "73d2dc64809cbf09324e5fdae26dd0ed9682f36b83df10a5235fe9abe0127774"), looks := true }, kinds := [], alts := [], laidByText := true, laidKinds := [.data, .data, .data], laidTests := true, laidLooks := .later }
def CamMoreCardSaid : Prop := Claim7.holds Tryz.pinned (.plain (OpenSpec.ofChange camMoreSpec)) camMoreCard

/-- THE TIED CARD OF 'tellurionlaw04.CamPlaces'. -/
def camPlacesCard : Claim7 := { stood := { row := camPlacesRow, standIns := [], harness := (true, "73d2dc64809cbf09324e5fdae26dd0ed9682f36b83df10a5235fe9abe0127774"), looks := true }, kinds := [], alts := [], laidByText := true, laidKinds := [.data, .data, .data], laidTests := true, laidLooks := .later }
def CamPlacesCardSaid : Prop := Claim7.holds Tryz.pinned (.plain (OpenSpec.ofChange camPlacesSpec)) camPlacesCard

/-- THE TIED CARD OF 'tellurionlaw04.CamTurns'. -/
def camTurnsCard : Claim7 := { stood := { row := camTurnsRow, standIns := [], harness := (true, "73d2dc64809cbf09324e5fdae26dd0ed9682f36b83df10a5235fe9abe0127774"), looks := true }, kinds := [], alts := [], laidByText := true, laidKinds := [.data, .data, .data], laidTests := true, laidLooks := .later }
def CamTurnsCardSaid : Prop := Claim7.holds Tryz.pinned (.plain (OpenSpec.ofChange camTurnsSpec)) camTurnsCard

/-- THE TIED CARD OF 'tellurionlaw04.CamStood'. -/
def camStoodCard : Claim7 := { stood := { row := camStoodRow, standIns := [], harness := (true, "73d2dc64809cbf09324e5fdae26dd0ed9682f36b83df10a5235fe9abe0127774"), looks := true }, kinds := [], alts := [], laidByText := true, laidKinds := [.data, .data, .data], laidTests := true, laidLooks := .later }
def CamStoodCardSaid : Prop := Claim7.holds Tryz.pinned (.plain (OpenSpec.ofChange camStoodSpec)) camStoodCard

/-- THE TIED CARD OF 'tellurionlaw04.CamBack'. -/
def camBackCard : Claim7 := { stood := { row := camBackRow, standIns := [], harness := (true, "73d2dc64809cbf09324e5fdae26dd0ed9682f36b83df10a5235fe9abe0127774"), looks := true }, kinds := [], alts := [], laidByText := true, laidKinds := [.data, .data, .data], laidTests := true, laidLooks := .later }
def CamBackCardSaid : Prop := Claim7.holds Tryz.pinned (.plain (OpenSpec.ofChange camBackSpec)) camBackCard

/-- THE TIED CARD OF 'tellurionlaw04.CamCarved'. -/
def camCarvedCard : Claim7 := { stood := { row := camCarvedRow, standIns := [], harness := (true, "73d2dc64809cbf09324e5fdae26dd0ed9682f36b83df10a5235fe9abe0127774"), looks := true }, kinds := [], alts := [], laidByText := true, laidKinds := [.data, .data, .data], laidTests := true, laidLooks := .later }
def CamCarvedCardSaid : Prop := Claim7.holds Tryz.pinned (.plain (OpenSpec.ofChange camCarvedSpec)) camCarvedCard

/-- THE SECOND FORM's CARD OF 'tellurionlaw04.CamRetreats'. -/
def camRetreatsUptoCard : Claim7 := { stood := { row := camRetreatsUptoRow, standIns := [], harness := (true, "73d2dc64809cbf09324e5fdae26dd0ed9682f36b83df10a5235fe9abe0127774"), looks := true }, kinds := [], alts := [], laidByText := true, laidKinds := [.data, .data, .data], laidTests := true, laidLooks := .later }
def CamRetreatsUptoCardSaid : Prop := Claim7.holds Tryz.pinned (.plain (OpenSpec.upto camRetreatsSpec)) camRetreatsUptoCard

/-- THE SECOND FORM's CARD OF 'tellurionlaw04.CamMore'. -/
def camMoreUptoCard : Claim7 := { stood := { row := camMoreUptoRow, standIns := [], harness := (true, "73d2dc64809cbf09324e5fdae26dd0ed9682f36b83df10a5235fe9abe0127774"), looks := true }, kinds := [], alts := [], laidByText := true, laidKinds := [.data, .data, .data], laidTests := true, laidLooks := .later }
def CamMoreUptoCardSaid : Prop := Claim7.holds Tryz.pinned (.plain (OpenSpec.upto camMoreSpec)) camMoreUptoCard

/-- THE SECOND FORM's CARD OF 'tellurionlaw04.CamPlaces'. -/
def camPlacesUptoCard : Claim7 := { stood := { row := camPlacesUptoRow, standIns := [], harness := (true, "73d2dc64809cbf09324e5fdae26dd0ed9682f36b83df10a5235fe9abe0127774"), looks := true }, kinds := [], alts := [], laidByText := true, laidKinds := [.data, .data, .data], laidTests := true, laidLooks := .later }
def CamPlacesUptoCardSaid : Prop := Claim7.holds Tryz.pinned (.plain (OpenSpec.upto camPlacesSpec)) camPlacesUptoCard

/-- THE SECOND FORM's CARD OF 'tellurionlaw04.CamTurns'. -/
def camTurnsUptoCard : Claim7 := { stood := { row := camTurnsUptoRow, standIns := [], harness := (true, "73d2dc64809cbf09324e5fdae26dd0ed9682f36b83df10a5235fe9abe0127774"), looks := true }, kinds := [], alts := [], laidByText := true, laidKinds := [.data, .data, .data], laidTests := true, laidLooks := .later }
def CamTurnsUptoCardSaid : Prop := Claim7.holds Tryz.pinned (.plain (OpenSpec.upto camTurnsSpec)) camTurnsUptoCard

/-- THE SECOND FORM's CARD OF 'tellurionlaw04.CamStood'. -/
def camStoodUptoCard : Claim7 := { stood := { row := camStoodUptoRow, standIns := [], harness := (true, "73d2dc64809cbf09324e5fdae26dd0ed9682f36b83df10a5235fe9abe0127774"), looks := true }, kinds := [], alts := [], laidByText := true, laidKinds := [.data, .data, .data], laidTests := true, laidLooks := .later }
def CamStoodUptoCardSaid : Prop := Claim7.holds Tryz.pinned (.plain (OpenSpec.upto camStoodSpec)) camStoodUptoCard

/-- THE SECOND FORM's CARD OF 'tellurionlaw04.CamBack'. -/
def camBackUptoCard : Claim7 := { stood := { row := camBackUptoRow, standIns := [], harness := (true, "73d2dc64809cbf09324e5fdae26dd0ed9682f36b83df10a5235fe9abe0127774"), looks := true }, kinds := [], alts := [], laidByText := true, laidKinds := [.data, .data, .data], laidTests := true, laidLooks := .later }
def CamBackUptoCardSaid : Prop := Claim7.holds Tryz.pinned (.plain (OpenSpec.upto camBackSpec)) camBackUptoCard

/-- THE SECOND FORM's CARD OF 'tellurionlaw04.CamCarved'. -/
def camCarvedUptoCard : Claim7 := { stood := { row := camCarvedUptoRow, standIns := [], harness := (true, "73d2dc64809cbf09324e5fdae26dd0ed9682f36b83df10a5235fe9abe0127774"), looks := true }, kinds := [], alts := [], laidByText := true, laidKinds := [.data, .data, .data], laidTests := true, laidLooks := .later }
def CamCarvedUptoCardSaid : Prop := Claim7.holds Tryz.pinned (.plain (OpenSpec.upto camCarvedSpec)) camCarvedUptoCard
end Rows
end Go.Proofs.YtbjimmemcmjpcabGreatDoor
