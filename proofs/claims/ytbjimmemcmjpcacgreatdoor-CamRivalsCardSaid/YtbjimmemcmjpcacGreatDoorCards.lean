/-
  DERIVED. GIVEN WITH THE SEED: THE CARDS: each row of YtbjimmemcmjpcacGreatDoorRows.lean that lists a variable, with what it lists TIED to the program's text (the seventh form; the later family's looks); each row that meets fmt, with fmt's text TOLD by the authors' own Lean function (tested against real Go, not proved from fmt's source: count such statements apart). THE CARD IS WHAT COUNTS. Prove the row's statement (the work); the ties are given (YtbjimmemcmjpcacGreatDoorTie.lean); close each card by the builder's one call (the guide's Derived/Test/ToyasCard.lean, 'card_holds'). Laid BY PROGRAM, IN A SANDBOX (cutbox-door.mjs). By AI agents, Wed Nov 11 2026. No macro, syntax, notation, axiom, sorry.
-/
import Derived.Test.YtbjimmemcmjpcacGreatDoorRows
import GoSem.ClaimSeven
namespace Go.Proofs.YtbjimmemcmjpcacGreatDoor
namespace Rows

/-- THE TIED CARD OF 'tellurionlaw04.CamShifts'. -/
def camShiftsCard : Claim7 := { stood := { row := camShiftsRow, standIns := [], harness := (true, "d56a1d90f243547a0854d88ffd2c181f71353f26ae5d542757a398934d1e1f52"), looks := true }, kinds := [], alts := [], laidByText := true, laidKinds := [.data, .data, .data], laidTests := true, laidLooks := .later }
def CamShiftsCardSaid : Prop := Claim7.holds Tryz.pinned (.plain (OpenSpec.ofChange camShiftsSpec)) camShiftsCard

/-- THE TIED CARD OF 'tellurionlaw04.CamShifted'. -/
def camShiftedCard : Claim7 := { stood := { row := camShiftedRow, standIns := [], harness := (true, "d56a1d90f243547a0854d88ffd2c181f71353f26ae5d542757a398934d1e1f52"), looks := true }, kinds := [], alts := [], laidByText := true, laidKinds := [.data, .data, .data], laidTests := true, laidLooks := .later }
def CamShiftedCardSaid : Prop := Claim7.holds Tryz.pinned (.plain (OpenSpec.ofChange camShiftedSpec)) camShiftedCard

/-- THE TIED CARD OF 'tellurionlaw04.CamRivals'. -/
def camRivalsCard : Claim7 := { stood := { row := camRivalsRow, standIns := [], harness := (true, "d56a1d90f243547a0854d88ffd2c181f71353f26ae5d542757a398934d1e1f52"), looks := true }, kinds := [], alts := [], laidByText := true, laidKinds := [.data, .data, .data], laidTests := true, laidLooks := .later }
def CamRivalsCardSaid : Prop := Claim7.holds Tryz.pinned (.plain (OpenSpec.ofChange camRivalsSpec)) camRivalsCard

/-- THE TIED CARD OF 'tellurionlaw04.CamFitted'. -/
def camFittedCard : Claim7 := { stood := { row := camFittedRow, standIns := [], harness := (true, "d56a1d90f243547a0854d88ffd2c181f71353f26ae5d542757a398934d1e1f52"), looks := true }, kinds := [], alts := [], laidByText := true, laidKinds := [.data, .data, .data], laidTests := true, laidLooks := .later }
def CamFittedCardSaid : Prop := Claim7.holds Tryz.pinned (.plain (OpenSpec.ofChange camFittedSpec)) camFittedCard

/-- THE TIED CARD OF 'tellurionlaw04.CamPrints'. -/
def camPrintsCard : Claim7 := { stood := { row := camPrintsRow, standIns := [], harness := (true, "d56a1d90f243547a0854d88ffd2c181f71353f26ae5d542757a398934d1e1f52"), looks := true }, kinds := [], alts := [], laidByText := true, laidKinds := [.data, .data, .data, .data, .pinned], laidTests := true, laidLooks := .later }
def CamPrintsCardSaid : Prop := Claim7.holds Tryz.pinned (.plain (OpenSpec.ofChange camPrintsSpec)) camPrintsCard

/-- THE TIED CARD OF 'tellurionlaw04.CamReads'. -/
def camReadsCard : Claim7 := { stood := { row := camReadsRow, standIns := [], harness := (true, "d56a1d90f243547a0854d88ffd2c181f71353f26ae5d542757a398934d1e1f52"), looks := true }, kinds := [], alts := [], laidByText := true, laidKinds := [.data, .data, .data, .data, .pinned], laidTests := true, laidLooks := .later }
def CamReadsCardSaid : Prop := Claim7.holds Tryz.pinned (.plain (OpenSpec.ofChange camReadsSpec)) camReadsCard

/-- THE TIED CARD OF 'tellurionlaw04.CamSpoilt'. -/
def camSpoiltCard : Claim7 := { stood := { row := camSpoiltRow, standIns := [], harness := (true, "d56a1d90f243547a0854d88ffd2c181f71353f26ae5d542757a398934d1e1f52"), looks := true }, kinds := [], alts := [], laidByText := true, laidKinds := [.data, .data, .data, .data, .pinned], laidTests := true, laidLooks := .later }
def CamSpoiltCardSaid : Prop := Claim7.holds Tryz.pinned (.plain (OpenSpec.ofChange camSpoiltSpec)) camSpoiltCard

/-- THE SECOND FORM's CARD OF 'tellurionlaw04.CamShifts'. -/
def camShiftsUptoCard : Claim7 := { stood := { row := camShiftsUptoRow, standIns := [], harness := (true, "d56a1d90f243547a0854d88ffd2c181f71353f26ae5d542757a398934d1e1f52"), looks := true }, kinds := [], alts := [], laidByText := true, laidKinds := [.data, .data, .data], laidTests := true, laidLooks := .later }
def CamShiftsUptoCardSaid : Prop := Claim7.holds Tryz.pinned (.plain (OpenSpec.upto camShiftsSpec)) camShiftsUptoCard

/-- THE SECOND FORM's CARD OF 'tellurionlaw04.CamShifted'. -/
def camShiftedUptoCard : Claim7 := { stood := { row := camShiftedUptoRow, standIns := [], harness := (true, "d56a1d90f243547a0854d88ffd2c181f71353f26ae5d542757a398934d1e1f52"), looks := true }, kinds := [], alts := [], laidByText := true, laidKinds := [.data, .data, .data], laidTests := true, laidLooks := .later }
def CamShiftedUptoCardSaid : Prop := Claim7.holds Tryz.pinned (.plain (OpenSpec.upto camShiftedSpec)) camShiftedUptoCard

/-- THE SECOND FORM's CARD OF 'tellurionlaw04.CamRivals'. -/
def camRivalsUptoCard : Claim7 := { stood := { row := camRivalsUptoRow, standIns := [], harness := (true, "d56a1d90f243547a0854d88ffd2c181f71353f26ae5d542757a398934d1e1f52"), looks := true }, kinds := [], alts := [], laidByText := true, laidKinds := [.data, .data, .data], laidTests := true, laidLooks := .later }
def CamRivalsUptoCardSaid : Prop := Claim7.holds Tryz.pinned (.plain (OpenSpec.upto camRivalsSpec)) camRivalsUptoCard

/-- THE SECOND FORM's CARD OF 'tellurionlaw04.CamFitted'. -/
def camFittedUptoCard : Claim7 := { stood := { row := camFittedUptoRow, standIns := [], harness := (true, "d56a1d90f243547a0854d88ffd2c181f71353f26ae5d542757a398934d1e1f52"), looks := true }, kinds := [], alts := [], laidByText := true, laidKinds := [.data, .data, .data], laidTests := true, laidLooks := .later }
def CamFittedUptoCardSaid : Prop := Claim7.holds Tryz.pinned (.plain (OpenSpec.upto camFittedSpec)) camFittedUptoCard

/-- THE SECOND FORM's CARD OF 'tellurionlaw04.CamPrints'. -/
def camPrintsUptoCard : Claim7 := { stood := { row := camPrintsUptoRow, standIns := [], harness := (true, "d56a1d90f243547a0854d88ffd2c181f71353f26ae5d542757a398934d1e1f52"), looks := true }, kinds := [], alts := [], laidByText := true, laidKinds := [.data, .data, .data, .data, .pinned], laidTests := true, laidLooks := .later }
def CamPrintsUptoCardSaid : Prop := Claim7.holds Tryz.pinned (.plain (OpenSpec.upto camPrintsSpec)) camPrintsUptoCard

/-- THE SECOND FORM's CARD OF 'tellurionlaw04.CamReads'. -/
def camReadsUptoCard : Claim7 := { stood := { row := camReadsUptoRow, standIns := [], harness := (true, "d56a1d90f243547a0854d88ffd2c181f71353f26ae5d542757a398934d1e1f52"), looks := true }, kinds := [], alts := [], laidByText := true, laidKinds := [.data, .data, .data, .data, .pinned], laidTests := true, laidLooks := .later }
def CamReadsUptoCardSaid : Prop := Claim7.holds Tryz.pinned (.plain (OpenSpec.upto camReadsSpec)) camReadsUptoCard

/-- THE SECOND FORM's CARD OF 'tellurionlaw04.CamSpoilt'. -/
def camSpoiltUptoCard : Claim7 := { stood := { row := camSpoiltUptoRow, standIns := [], harness := (true, "d56a1d90f243547a0854d88ffd2c181f71353f26ae5d542757a398934d1e1f52"), looks := true }, kinds := [], alts := [], laidByText := true, laidKinds := [.data, .data, .data, .data, .pinned], laidTests := true, laidLooks := .later }
def CamSpoiltUptoCardSaid : Prop := Claim7.holds Tryz.pinned (.plain (OpenSpec.upto camSpoiltSpec)) camSpoiltUptoCard
end Rows
end Go.Proofs.YtbjimmemcmjpcacGreatDoor
