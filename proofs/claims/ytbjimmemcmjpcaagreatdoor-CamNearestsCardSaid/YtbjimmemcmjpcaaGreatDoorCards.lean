/-
  DERIVED. GIVEN WITH THE SEED: THE CARDS: each row of YtbjimmemcmjpcaaGreatDoorRows.lean that lists a variable, with what it lists TIED to the program's text (the seventh form; the later family's looks); each row that meets fmt, with fmt's text TOLD by the authors' own Lean function (tested against real Go, not proved from fmt's source: count such statements apart). THE CARD IS WHAT COUNTS. Prove the row's statement (the work); the ties are given (YtbjimmemcmjpcaaGreatDoorTie.lean); close each card by the builder's one call (the guide's Derived/Test/ToyasCard.lean, 'card_holds'). Laid BY PROGRAM, IN A SANDBOX (cutbox-door.mjs). By AI agents, Wed Nov 11 2026. No macro, syntax, notation, axiom, sorry.
-/
import Derived.Test.YtbjimmemcmjpcaaGreatDoorRows
import GoSem.ClaimSeven
namespace Go.Proofs.YtbjimmemcmjpcaaGreatDoor
namespace Rows

/-- THE TIED CARD OF 'tellurionlaw04.CamNearests'. -/
def camNearestsCard : Claim7 := { stood := { row := camNearestsRow, standIns := [], harness := (true, "b4549f6f28383ca6fa411da8d72a1455f400309194d98aeef1cde4309bf0893b"), looks := true }, kinds := [], alts := [], laidByText := true, laidKinds := [.data, .data, .data], laidTests := true, laidLooks := .later }
def CamNearestsCardSaid : Prop := Claim7.holds Tryz.pinned (.plain (OpenSpec.ofChange camNearestsSpec)) camNearestsCard

/-- THE TIED CARD OF 'tellurionlaw04.CamKnowns'. -/
def camKnownsCard : Claim7 := { stood := { row := camKnownsRow, standIns := [], harness := (true, "b4549f6f28383ca6fa411da8d72a1455f400309194d98aeef1cde4309bf0893b"), looks := true }, kinds := [], alts := [], laidByText := true, laidKinds := [.data, .data, .data], laidTests := true, laidLooks := .later }
def CamKnownsCardSaid : Prop := Claim7.holds Tryz.pinned (.plain (OpenSpec.ofChange camKnownsSpec)) camKnownsCard

/-- THE TIED CARD OF 'tellurionlaw04.CamTrue'. -/
def camTrueCard : Claim7 := { stood := { row := camTrueRow, standIns := [], harness := (true, "b4549f6f28383ca6fa411da8d72a1455f400309194d98aeef1cde4309bf0893b"), looks := true }, kinds := [], alts := [], laidByText := true, laidKinds := [.data, .data, .data], laidTests := true, laidLooks := .later }
def CamTrueCardSaid : Prop := Claim7.holds Tryz.pinned (.plain (OpenSpec.ofChange camTrueSpec)) camTrueCard

/-- THE TIED CARD OF 'tellurionlaw04.CamEnds'. -/
def camEndsCard : Claim7 := { stood := { row := camEndsRow, standIns := [], harness := (true, "b4549f6f28383ca6fa411da8d72a1455f400309194d98aeef1cde4309bf0893b"), looks := true }, kinds := [], alts := [], laidByText := true, laidKinds := [.data, .data, .data], laidTests := true, laidLooks := .later }
def CamEndsCardSaid : Prop := Claim7.holds Tryz.pinned (.plain (OpenSpec.ofChange camEndsSpec)) camEndsCard

/-- THE TIED CARD OF 'tellurionlaw04.CamFollows'. -/
def camFollowsCard : Claim7 := { stood := { row := camFollowsRow, standIns := [], harness := (true, "b4549f6f28383ca6fa411da8d72a1455f400309194d98aeef1cde4309bf0893b"), looks := true }, kinds := [], alts := [], laidByText := true, laidKinds := [.data, .data, .data], laidTests := true, laidLooks := .later }
def CamFollowsCardSaid : Prop := Claim7.holds Tryz.pinned (.plain (OpenSpec.ofChange camFollowsSpec)) camFollowsCard

/-- THE TIED CARD OF 'tellurionlaw04.CamFoot'. -/
def camFootCard : Claim7 := { stood := { row := camFootRow, standIns := [], harness := (true, "b4549f6f28383ca6fa411da8d72a1455f400309194d98aeef1cde4309bf0893b"), looks := true }, kinds := [], alts := [], laidByText := true, laidKinds := [.data, .data, .data], laidTests := true, laidLooks := .later }
def CamFootCardSaid : Prop := Claim7.holds Tryz.pinned (.plain (OpenSpec.ofChange camFootSpec)) camFootCard

/-- THE TIED CARD OF 'tellurionlaw04.CamStations'. -/
def camStationsCard : Claim7 := { stood := { row := camStationsRow, standIns := [], harness := (true, "b4549f6f28383ca6fa411da8d72a1455f400309194d98aeef1cde4309bf0893b"), looks := true }, kinds := [], alts := [], laidByText := true, laidKinds := [.data, .data, .data], laidTests := true, laidLooks := .later }
def CamStationsCardSaid : Prop := Claim7.holds Tryz.pinned (.plain (OpenSpec.ofChange camStationsSpec)) camStationsCard

/-- THE SECOND FORM's CARD OF 'tellurionlaw04.CamNearests'. -/
def camNearestsUptoCard : Claim7 := { stood := { row := camNearestsUptoRow, standIns := [], harness := (true, "b4549f6f28383ca6fa411da8d72a1455f400309194d98aeef1cde4309bf0893b"), looks := true }, kinds := [], alts := [], laidByText := true, laidKinds := [.data, .data, .data], laidTests := true, laidLooks := .later }
def CamNearestsUptoCardSaid : Prop := Claim7.holds Tryz.pinned (.plain (OpenSpec.upto camNearestsSpec)) camNearestsUptoCard

/-- THE SECOND FORM's CARD OF 'tellurionlaw04.CamKnowns'. -/
def camKnownsUptoCard : Claim7 := { stood := { row := camKnownsUptoRow, standIns := [], harness := (true, "b4549f6f28383ca6fa411da8d72a1455f400309194d98aeef1cde4309bf0893b"), looks := true }, kinds := [], alts := [], laidByText := true, laidKinds := [.data, .data, .data], laidTests := true, laidLooks := .later }
def CamKnownsUptoCardSaid : Prop := Claim7.holds Tryz.pinned (.plain (OpenSpec.upto camKnownsSpec)) camKnownsUptoCard

/-- THE SECOND FORM's CARD OF 'tellurionlaw04.CamTrue'. -/
def camTrueUptoCard : Claim7 := { stood := { row := camTrueUptoRow, standIns := [], harness := (true, "b4549f6f28383ca6fa411da8d72a1455f400309194d98aeef1cde4309bf0893b"), looks := true }, kinds := [], alts := [], laidByText := true, laidKinds := [.data, .data, .data], laidTests := true, laidLooks := .later }
def CamTrueUptoCardSaid : Prop := Claim7.holds Tryz.pinned (.plain (OpenSpec.upto camTrueSpec)) camTrueUptoCard

/-- THE SECOND FORM's CARD OF 'tellurionlaw04.CamEnds'. -/
def camEndsUptoCard : Claim7 := { stood := { row := camEndsUptoRow, standIns := [], harness := (true, "b4549f6f28383ca6fa411da8d72a1455f400309194d98aeef1cde4309bf0893b"), looks := true }, kinds := [], alts := [], laidByText := true, laidKinds := [.data, .data, .data], laidTests := true, laidLooks := .later }
def CamEndsUptoCardSaid : Prop := Claim7.holds Tryz.pinned (.plain (OpenSpec.upto camEndsSpec)) camEndsUptoCard

/-- THE SECOND FORM's CARD OF 'tellurionlaw04.CamFollows'. -/
def camFollowsUptoCard : Claim7 := { stood := { row := camFollowsUptoRow, standIns := [], harness := (true, "b4549f6f28383ca6fa411da8d72a1455f400309194d98aeef1cde4309bf0893b"), looks := true }, kinds := [], alts := [], laidByText := true, laidKinds := [.data, .data, .data], laidTests := true, laidLooks := .later }
def CamFollowsUptoCardSaid : Prop := Claim7.holds Tryz.pinned (.plain (OpenSpec.upto camFollowsSpec)) camFollowsUptoCard

/-- THE SECOND FORM's CARD OF 'tellurionlaw04.CamFoot'. -/
def camFootUptoCard : Claim7 := { stood := { row := camFootUptoRow, standIns := [], harness := (true, "b4549f6f28383ca6fa411da8d72a1455f400309194d98aeef1cde4309bf0893b"), looks := true }, kinds := [], alts := [], laidByText := true, laidKinds := [.data, .data, .data], laidTests := true, laidLooks := .later }
def CamFootUptoCardSaid : Prop := Claim7.holds Tryz.pinned (.plain (OpenSpec.upto camFootSpec)) camFootUptoCard

/-- THE SECOND FORM's CARD OF 'tellurionlaw04.CamStations'. -/
def camStationsUptoCard : Claim7 := { stood := { row := camStationsUptoRow, standIns := [], harness := (true, "b4549f6f28383ca6fa411da8d72a1455f400309194d98aeef1cde4309bf0893b"), looks := true }, kinds := [], alts := [], laidByText := true, laidKinds := [.data, .data, .data], laidTests := true, laidLooks := .later }
def CamStationsUptoCardSaid : Prop := Claim7.holds Tryz.pinned (.plain (OpenSpec.upto camStationsSpec)) camStationsUptoCard
end Rows
end Go.Proofs.YtbjimmemcmjpcaaGreatDoor
