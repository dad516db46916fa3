/-
  DERIVED. GIVEN WITH THE SEED: THE CARDS: each row of YtcfikdoejmgejaaDoorRows.lean that lists a variable, with what it lists TIED to the program's text (the seventh form; the later family's looks); each row that meets fmt, with fmt's text TOLD by the authors' own Lean function (tested against real Go, not proved from fmt's source: count such statements apart). THE CARD IS WHAT COUNTS. Prove the row's statement (the work); the ties are given (YtcfikdoejmgejaaDoorTie.lean); close each card by the builder's one call (the guide's Derived/Test/ToyasCard.lean, 'card_holds'). Laid BY PROGRAM, IN A SANDBOX (cutbox-door.mjs). By AI agents, Wed Nov 11 2026. No macro, syntax, notation, axiom, sorry.
-/
import Derived.Test.YtcfikdoejmgejaaDoorRows
import GoSem.ClaimSeven
namespace Go.Proofs.YtcfikdoejmgejaaDoor
namespace Rows

/-- THE TIED CARD OF 'skiarealaw01.FixedAdds'. -/
def fixedAddsCard : Claim7 := { stood := { row := fixedAddsRow, standIns := [], harness := (true, "2c6c568cde1e374821e0ed35287fe32890b05c493f777c847a0509ac91b60ce7"), looks := false }, kinds := [], alts := [], laidByText := true, laidKinds := [.data, .data, .data], laidTests := true, laidLooks := .later }
def FixedAddsCardSaid : Prop := Claim7.holds Tryd.pinned (.plain (OpenSpec.ofChange fixedAddsSpec)) fixedAddsCard

/-- THE TIED CARD OF 'skiarealaw01.FixedMuls'. -/
def fixedMulsCard : Claim7 := { stood := { row := fixedMulsRow, standIns := [], harness := (true, "2c6c568cde1e374821e0ed35287fe32890b05c493f777c847a0509ac91b60ce7"), looks := false }, kinds := [], alts := [], laidByText := true, laidKinds := [.data, .data, .data], laidTests := true, laidLooks := .later }
def FixedMulsCardSaid : Prop := Claim7.holds Tryd.pinned (.plain (OpenSpec.ofChange fixedMulsSpec)) fixedMulsCard

/-- THE TIED CARD OF 'skiarealaw01.FixedDivs'. -/
def fixedDivsCard : Claim7 := { stood := { row := fixedDivsRow, standIns := [], harness := (true, "2c6c568cde1e374821e0ed35287fe32890b05c493f777c847a0509ac91b60ce7"), looks := false }, kinds := [], alts := [], laidByText := true, laidKinds := [.data, .data, .data], laidTests := true, laidLooks := .later }
def FixedDivsCardSaid : Prop := Claim7.holds Tryd.pinned (.plain (OpenSpec.ofChange fixedDivsSpec)) fixedDivsCard

/-- THE TIED CARD OF 'skiarealaw01.FixedRatios'. -/
def fixedRatiosCard : Claim7 := { stood := { row := fixedRatiosRow, standIns := [], harness := (true, "2c6c568cde1e374821e0ed35287fe32890b05c493f777c847a0509ac91b60ce7"), looks := false }, kinds := [], alts := [], laidByText := true, laidKinds := [.data, .data, .data], laidTests := true, laidLooks := .later }
def FixedRatiosCardSaid : Prop := Claim7.holds Tryd.pinned (.plain (OpenSpec.ofChange fixedRatiosSpec)) fixedRatiosCard

/-- THE TIED CARD OF 'skiarealaw01.FixedRounds'. -/
def fixedRoundsCard : Claim7 := { stood := { row := fixedRoundsRow, standIns := [], harness := (true, "2c6c568cde1e374821e0ed35287fe32890b05c493f777c847a0509ac91b60ce7"), looks := false }, kinds := [], alts := [], laidByText := true, laidKinds := [.data, .data, .data], laidTests := true, laidLooks := .later }
def FixedRoundsCardSaid : Prop := Claim7.holds Tryd.pinned (.plain (OpenSpec.ofChange fixedRoundsSpec)) fixedRoundsCard

/-- THE TIED CARD OF 'skiarealaw01.FixedAts'. -/
def fixedAtsCard : Claim7 := { stood := { row := fixedAtsRow, standIns := [], harness := (true, "2c6c568cde1e374821e0ed35287fe32890b05c493f777c847a0509ac91b60ce7"), looks := false }, kinds := [], alts := [], laidByText := true, laidKinds := [.data, .data, .data], laidTests := true, laidLooks := .later }
def FixedAtsCardSaid : Prop := Claim7.holds Tryd.pinned (.plain (OpenSpec.ofChange fixedAtsSpec)) fixedAtsCard

/-- THE TIED CARD OF 'skiarealaw01.FixedTexts'. -/
def fixedTextsCard : Claim7 := { stood := { row := fixedTextsRow, standIns := [], harness := (true, "2c6c568cde1e374821e0ed35287fe32890b05c493f777c847a0509ac91b60ce7"), looks := false }, kinds := [], alts := [], laidByText := true, laidKinds := [.data, .data, .data], laidTests := true, laidLooks := .later }
def FixedTextsCardSaid : Prop := Claim7.holds Tryd.pinned (.plain (OpenSpec.ofChange fixedTextsSpec)) fixedTextsCard

/-- THE TIED CARD OF 'skiarealaw01.FixedRises'. -/
def fixedRisesCard : Claim7 := { stood := { row := fixedRisesRow, standIns := [], harness := (true, "2c6c568cde1e374821e0ed35287fe32890b05c493f777c847a0509ac91b60ce7"), looks := false }, kinds := [], alts := [], laidByText := true, laidKinds := [.data, .data, .data], laidTests := true, laidLooks := .later }
def FixedRisesCardSaid : Prop := Claim7.holds Tryd.pinned (.plain (OpenSpec.ofChange fixedRisesSpec)) fixedRisesCard

/-- THE TIED CARD OF 'skiarealaw01.FixedBack'. -/
def fixedBackCard : Claim7 := { stood := { row := fixedBackRow, standIns := [], harness := (true, "2c6c568cde1e374821e0ed35287fe32890b05c493f777c847a0509ac91b60ce7"), looks := false }, kinds := [], alts := [], laidByText := true, laidKinds := [.data, .data, .data], laidTests := true, laidLooks := .later }
def FixedBackCardSaid : Prop := Claim7.holds Tryd.pinned (.plain (OpenSpec.ofChange fixedBackSpec)) fixedBackCard

/-- THE SECOND FORM's CARD OF 'skiarealaw01.FixedAdds'. -/
def fixedAddsUptoCard : Claim7 := { stood := { row := fixedAddsUptoRow, standIns := [], harness := (true, "2c6c568cde1e374821e0ed35287fe32890b05c493f777c847a0509ac91b60ce7"), looks := false }, kinds := [], alts := [], laidByText := true, laidKinds := [.data, .data, .data], laidTests := true, laidLooks := .later }
def FixedAddsUptoCardSaid : Prop := Claim7.holds Tryd.pinned (.plain (OpenSpec.upto fixedAddsSpec)) fixedAddsUptoCard

/-- THE SECOND FORM's CARD OF 'skiarealaw01.FixedMuls'. -/
def fixedMulsUptoCard : Claim7 := { stood := { row := fixedMulsUptoRow, standIns := [], harness := (true, "2c6c568cde1e374821e0ed35287fe32890b05c493f777c847a0509ac91b60ce7"), looks := false }, kinds := [], alts := [], laidByText := true, laidKinds := [.data, .data, .data], laidTests := true, laidLooks := .later }
def FixedMulsUptoCardSaid : Prop := Claim7.holds Tryd.pinned (.plain (OpenSpec.upto fixedMulsSpec)) fixedMulsUptoCard

/-- THE SECOND FORM's CARD OF 'skiarealaw01.FixedDivs'. -/
def fixedDivsUptoCard : Claim7 := { stood := { row := fixedDivsUptoRow, standIns := [], harness := (true, "2c6c568cde1e374821e0ed35287fe32890b05c493f777c847a0509ac91b60ce7"), looks := false }, kinds := [], alts := [], laidByText := true, laidKinds := [.data, .data, .data], laidTests := true, laidLooks := .later }
def FixedDivsUptoCardSaid : Prop := Claim7.holds Tryd.pinned (.plain (OpenSpec.upto fixedDivsSpec)) fixedDivsUptoCard

/-- THE SECOND FORM's CARD OF 'skiarealaw01.FixedRatios'. -/
def fixedRatiosUptoCard : Claim7 := { stood := { row := fixedRatiosUptoRow, standIns := [], harness := (true, "2c6c568cde1e374821e0ed35287fe32890b05c493f777c847a0509ac91b60ce7"), looks := false }, kinds := [], alts := [], laidByText := true, laidKinds := [.data, .data, .data], laidTests := true, laidLooks := .later }
def FixedRatiosUptoCardSaid : Prop := Claim7.holds Tryd.pinned (.plain (OpenSpec.upto fixedRatiosSpec)) fixedRatiosUptoCard

/-- THE SECOND FORM's CARD OF 'skiarealaw01.FixedRounds'. -/
def fixedRoundsUptoCard : Claim7 := { stood := { row := fixedRoundsUptoRow, standIns := [], harness := (true, "2c6c568cde1e374821e0ed35287fe32890b05c493f777c847a0509ac91b60ce7"), looks := false }, kinds := [], alts := [], laidByText := true, laidKinds := [.data, .data, .data], laidTests := true, laidLooks := .later }
def FixedRoundsUptoCardSaid : Prop := Claim7.holds Tryd.pinned (.plain (OpenSpec.upto fixedRoundsSpec)) fixedRoundsUptoCard

/-- THE SECOND FORM's CARD OF 'skiarealaw01.FixedAts'. -/
def fixedAtsUptoCard : Claim7 := { stood := { row := fixedAtsUptoRow, standIns := [], harness := (true, "2c6c568cde1e374821e0ed35287fe32890b05c493f777c847a0509ac91b60ce7"), looks := false }, kinds := [], alts := [], laidByText := true, laidKinds := [.data, .data, .data], laidTests := true, laidLooks := .later }
def FixedAtsUptoCardSaid : Prop := Claim7.holds Tryd.pinned (.plain (OpenSpec.upto fixedAtsSpec)) fixedAtsUptoCard

/-- THE SECOND FORM's CARD OF 'skiarealaw01.FixedTexts'. -/
def fixedTextsUptoCard : Claim7 := { stood := { row := fixedTextsUptoRow, standIns := [], harness := (true, "2c6c568cde1e374821e0ed35287fe32890b05c493f777c847a0509ac91b60ce7"), looks := false }, kinds := [], alts := [], laidByText := true, laidKinds := [.data, .data, .data], laidTests := true, laidLooks := .later }
def FixedTextsUptoCardSaid : Prop := Claim7.holds Tryd.pinned (.plain (OpenSpec.upto fixedTextsSpec)) fixedTextsUptoCard

/-- THE SECOND FORM's CARD OF 'skiarealaw01.FixedRises'. -/
def fixedRisesUptoCard : Claim7 := { stood := { row := fixedRisesUptoRow, standIns := [], harness := (true, "2c6c568cde1e374821e0ed35287fe32890b05c493f777c847a0509ac91b60ce7"), looks := false }, kinds := [], alts := [], laidByText := true, laidKinds := [.data, .data, .data], laidTests := true, laidLooks := .later }
def FixedRisesUptoCardSaid : Prop := Claim7.holds Tryd.pinned (.plain (OpenSpec.upto fixedRisesSpec)) fixedRisesUptoCard

/-- THE SECOND FORM's CARD OF 'skiarealaw01.FixedBack'. -/
def fixedBackUptoCard : Claim7 := { stood := { row := fixedBackUptoRow, standIns := [], harness := (true, "2c6c568cde1e374821e0ed35287fe32890b05c493f777c847a0509ac91b60ce7"), looks := false }, kinds := [], alts := [], laidByText := true, laidKinds := [.data, .data, .data], laidTests := true, laidLooks := .later }
def FixedBackUptoCardSaid : Prop := Claim7.holds Tryd.pinned (.plain (OpenSpec.upto fixedBackSpec)) fixedBackUptoCard
end Rows
end Go.Proofs.YtcfikdoejmgejaaDoor
