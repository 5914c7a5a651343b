/-
  DERIVED. GIVEN WITH THE SEED: THE CARDS: each row of YtnienfgaidccpaaDoorRows.lean that lists a variable, with what it lists TIED to the program's text (the seventh form; the later family's looks); each row that meets fmt, with fmt's text TOLD by the authors' own Lean function (tested against real Go, not proved from fmt's source: count such statements apart). THE CARD IS WHAT COUNTS. Prove the row's statement (the work); the ties are given (YtnienfgaidccpaaDoorTie.lean); close each card by the builder's one call (the guide's Derived/Test/ToyasCard.lean, 'card_holds'). Laid BY PROGRAM, IN A SANDBOX (cutbox-door.mjs). By AI agents, Wed Nov 11 2026. No macro, syntax, notation, axiom, sorry.
-/
import Derived.Test.YtnienfgaidccpaaDoorRows
import GoSem.ClaimSeven
namespace Go.Proofs.YtnienfgaidccpaaDoor
namespace Rows

/-- THE TIED CARD OF 'whorllaw05.SketchRecovers'. -/
def sketchRecoversCard : Claim7 := { stood := { row := sketchRecoversRow, standIns := [], harness := (true, "71a0d2fc1dfb887579d8a1c2793d2a2baa62954e1953fb52449249f58553a57a"), looks := false }, kinds := [], alts := [], laidByText := true, laidKinds := [.data], laidTests := true, laidLooks := .later }
def SketchRecoversCardSaid : Prop := Claim7.holds Tryd.pinned (.plain (OpenSpec.ofChange sketchRecoversSpec)) sketchRecoversCard

/-- THE TIED CARD OF 'whorllaw05.SketchCorrects'. -/
def sketchCorrectsCard : Claim7 := { stood := { row := sketchCorrectsRow, standIns := [], harness := (true, "71a0d2fc1dfb887579d8a1c2793d2a2baa62954e1953fb52449249f58553a57a"), looks := false }, kinds := [], alts := [], laidByText := true, laidKinds := [.data], laidTests := true, laidLooks := .later }
def SketchCorrectsCardSaid : Prop := Claim7.holds Tryd.pinned (.plain (OpenSpec.ofChange sketchCorrectsSpec)) sketchCorrectsCard

/-- THE TIED CARD OF 'whorllaw05.SketchFar'. -/
def sketchFarCard : Claim7 := { stood := { row := sketchFarRow, standIns := [], harness := (true, "71a0d2fc1dfb887579d8a1c2793d2a2baa62954e1953fb52449249f58553a57a"), looks := false }, kinds := [], alts := [], laidByText := true, laidKinds := [.data], laidTests := true, laidLooks := .later }
def SketchFarCardSaid : Prop := Claim7.holds Tryd.pinned (.plain (OpenSpec.ofChange sketchFarSpec)) sketchFarCard

/-- THE TIED CARD OF 'whorllaw05.SketchLinear'. -/
def sketchLinearCard : Claim7 := { stood := { row := sketchLinearRow, standIns := [], harness := (true, "71a0d2fc1dfb887579d8a1c2793d2a2baa62954e1953fb52449249f58553a57a"), looks := false }, kinds := [], alts := [], laidByText := true, laidKinds := [.data], laidTests := true, laidLooks := .later }
def SketchLinearCardSaid : Prop := Claim7.holds Tryd.pinned (.plain (OpenSpec.ofChange sketchLinearSpec)) sketchLinearCard

/-- THE TIED CARD OF 'whorllaw05.SketchVault'. -/
def sketchVaultCard : Claim7 := { stood := { row := sketchVaultRow, standIns := [], harness := (true, "71a0d2fc1dfb887579d8a1c2793d2a2baa62954e1953fb52449249f58553a57a"), looks := false }, kinds := [], alts := [], laidByText := true, laidKinds := [.data], laidTests := true, laidLooks := .later }
def SketchVaultCardSaid : Prop := Claim7.holds Tryd.pinned (.plain (OpenSpec.ofChange sketchVaultSpec)) sketchVaultCard

/-- THE TIED CARD OF 'whorllaw05.SketchOne'. -/
def sketchOneCard : Claim7 := { stood := { row := sketchOneRow, standIns := [], harness := (true, "71a0d2fc1dfb887579d8a1c2793d2a2baa62954e1953fb52449249f58553a57a"), looks := false }, kinds := [], alts := [], laidByText := true, laidKinds := [.data], laidTests := true, laidLooks := .later }
def SketchOneCardSaid : Prop := Claim7.holds Tryd.pinned (.plain (OpenSpec.ofChange sketchOneSpec)) sketchOneCard

/-- THE TIED CARD OF 'whorllaw05.SketchHidden'. -/
def sketchHiddenCard : Claim7 := { stood := { row := sketchHiddenRow, standIns := [], harness := (true, "71a0d2fc1dfb887579d8a1c2793d2a2baa62954e1953fb52449249f58553a57a"), looks := false }, kinds := [], alts := [], laidByText := true, laidKinds := [.data], laidTests := true, laidLooks := .later }
def SketchHiddenCardSaid : Prop := Claim7.holds Tryd.pinned (.plain (OpenSpec.ofChange sketchHiddenSpec)) sketchHiddenCard

/-- THE TIED CARD OF 'whorllaw05.SketchPlaces'. -/
def sketchPlacesCard : Claim7 := { stood := { row := sketchPlacesRow, standIns := [], harness := (true, "71a0d2fc1dfb887579d8a1c2793d2a2baa62954e1953fb52449249f58553a57a"), looks := false }, kinds := [], alts := [], laidByText := true, laidKinds := [.data], laidTests := true, laidLooks := .later }
def SketchPlacesCardSaid : Prop := Claim7.holds Tryd.pinned (.plain (OpenSpec.ofChange sketchPlacesSpec)) sketchPlacesCard

/-- THE TIED CARD OF 'whorllaw05.SketchBack'. -/
def sketchBackCard : Claim7 := { stood := { row := sketchBackRow, standIns := [], harness := (true, "71a0d2fc1dfb887579d8a1c2793d2a2baa62954e1953fb52449249f58553a57a"), looks := false }, kinds := [], alts := [], laidByText := true, laidKinds := [.data], laidTests := true, laidLooks := .later }
def SketchBackCardSaid : Prop := Claim7.holds Tryd.pinned (.plain (OpenSpec.ofChange sketchBackSpec)) sketchBackCard

/-- THE TIED CARD OF 'whorllaw05.SketchOpened'. -/
def sketchOpenedCard : Claim7 := { stood := { row := sketchOpenedRow, standIns := [], harness := (true, "71a0d2fc1dfb887579d8a1c2793d2a2baa62954e1953fb52449249f58553a57a"), looks := false }, kinds := [], alts := [], laidByText := true, laidKinds := [.data], laidTests := true, laidLooks := .later }
def SketchOpenedCardSaid : Prop := Claim7.holds Tryd.pinned (.plain (OpenSpec.ofChange sketchOpenedSpec)) sketchOpenedCard

/-- THE TIED CARD OF 'whorllaw05.SketchCodes'. -/
def sketchCodesCard : Claim7 := { stood := { row := sketchCodesRow, standIns := [], harness := (true, "71a0d2fc1dfb887579d8a1c2793d2a2baa62954e1953fb52449249f58553a57a"), looks := false }, kinds := [], alts := [], laidByText := true, laidKinds := [.data], laidTests := true, laidLooks := .later }
def SketchCodesCardSaid : Prop := Claim7.holds Tryd.pinned (.plain (OpenSpec.ofChange sketchCodesSpec)) sketchCodesCard

/-- THE TIED CARD OF 'whorllaw05.SketchLeft'. -/
def sketchLeftCard : Claim7 := { stood := { row := sketchLeftRow, standIns := [], harness := (true, "71a0d2fc1dfb887579d8a1c2793d2a2baa62954e1953fb52449249f58553a57a"), looks := false }, kinds := [], alts := [], laidByText := true, laidKinds := [.data], laidTests := true, laidLooks := .later }
def SketchLeftCardSaid : Prop := Claim7.holds Tryd.pinned (.plain (OpenSpec.ofChange sketchLeftSpec)) sketchLeftCard

/-- THE TIED CARD OF 'whorllaw05.SketchGuessed'. -/
def sketchGuessedCard : Claim7 := { stood := { row := sketchGuessedRow, standIns := [], harness := (true, "71a0d2fc1dfb887579d8a1c2793d2a2baa62954e1953fb52449249f58553a57a"), looks := false }, kinds := [], alts := [], laidByText := true, laidKinds := [.data], laidTests := true, laidLooks := .later }
def SketchGuessedCardSaid : Prop := Claim7.holds Tryd.pinned (.plain (OpenSpec.ofChange sketchGuessedSpec)) sketchGuessedCard

/-- THE TIED CARD OF 'whorllaw05.SketchExamples'. -/
def sketchExamplesCard : Claim7 := { stood := { row := sketchExamplesRow, standIns := [], harness := (true, "71a0d2fc1dfb887579d8a1c2793d2a2baa62954e1953fb52449249f58553a57a"), looks := false }, kinds := [], alts := [], laidByText := true, laidKinds := [.data], laidTests := true, laidLooks := .later }
def SketchExamplesCardSaid : Prop := Claim7.holds Tryd.pinned (.plain (OpenSpec.ofChange sketchExamplesSpec)) sketchExamplesCard

/-- THE SECOND FORM's CARD OF 'whorllaw05.SketchRecovers'. -/
def sketchRecoversUptoCard : Claim7 := { stood := { row := sketchRecoversUptoRow, standIns := [], harness := (true, "71a0d2fc1dfb887579d8a1c2793d2a2baa62954e1953fb52449249f58553a57a"), looks := false }, kinds := [], alts := [], laidByText := true, laidKinds := [.data], laidTests := true, laidLooks := .later }
def SketchRecoversUptoCardSaid : Prop := Claim7.holds Tryd.pinned (.plain (OpenSpec.upto sketchRecoversSpec)) sketchRecoversUptoCard

/-- THE SECOND FORM's CARD OF 'whorllaw05.SketchCorrects'. -/
def sketchCorrectsUptoCard : Claim7 := { stood := { row := sketchCorrectsUptoRow, standIns := [], harness := (true, "71a0d2fc1dfb887579d8a1c2793d2a2baa62954e1953fb52449249f58553a57a"), looks := false }, kinds := [], alts := [], laidByText := true, laidKinds := [.data], laidTests := true, laidLooks := .later }
def SketchCorrectsUptoCardSaid : Prop := Claim7.holds Tryd.pinned (.plain (OpenSpec.upto sketchCorrectsSpec)) sketchCorrectsUptoCard

/-- THE SECOND FORM's CARD OF 'whorllaw05.SketchFar'. -/
def sketchFarUptoCard : Claim7 := { stood := { row := sketchFarUptoRow, standIns := [], harness := (true, "71a0d2fc1dfb887579d8a1c2793d2a2baa62954e1953fb52449249f58553a57a"), looks := false }, kinds := [], alts := [], laidByText := true, laidKinds := [.data], laidTests := true, laidLooks := .later }
def SketchFarUptoCardSaid : Prop := Claim7.holds Tryd.pinned (.plain (OpenSpec.upto sketchFarSpec)) sketchFarUptoCard

/-- THE SECOND FORM's CARD OF 'whorllaw05.SketchLinear'. -/
def sketchLinearUptoCard : Claim7 := { stood := { row := sketchLinearUptoRow, standIns := [], harness := (true, "71a0d2fc1dfb887579d8a1c2793d2a2baa62954e1953fb52449249f58553a57a"), looks := false }, kinds := [], alts := [], laidByText := true, laidKinds := [.data], laidTests := true, laidLooks := .later }
def SketchLinearUptoCardSaid : Prop := Claim7.holds Tryd.pinned (.plain (OpenSpec.upto sketchLinearSpec)) sketchLinearUptoCard

/-- THE SECOND FORM's CARD OF 'whorllaw05.SketchVault'. -/
def sketchVaultUptoCard : Claim7 := { stood := { row := sketchVaultUptoRow, standIns := [], harness := (true, "71a0d2fc1dfb887579d8a1c2793d2a2baa62954e1953fb52449249f58553a57a"), looks := false }, kinds := [], alts := [], laidByText := true, laidKinds := [.data], laidTests := true, laidLooks := .later }
def SketchVaultUptoCardSaid : Prop := Claim7.holds Tryd.pinned (.plain (OpenSpec.upto sketchVaultSpec)) sketchVaultUptoCard

/-- THE SECOND FORM's CARD OF 'whorllaw05.SketchOne'. -/
def sketchOneUptoCard : Claim7 := { stood := { row := sketchOneUptoRow, standIns := [], harness := (true, "71a0d2fc1dfb887579d8a1c2793d2a2baa62954e1953fb52449249f58553a57a"), looks := false }, kinds := [], alts := [], laidByText := true, laidKinds := [.data], laidTests := true, laidLooks := .later }
def SketchOneUptoCardSaid : Prop := Claim7.holds Tryd.pinned (.plain (OpenSpec.upto sketchOneSpec)) sketchOneUptoCard

/-- THE SECOND FORM's CARD OF 'whorllaw05.SketchHidden'. -/
def sketchHiddenUptoCard : Claim7 := { stood := { row := sketchHiddenUptoRow, standIns := [], harness := (true, "71a0d2fc1dfb887579d8a1c2793d2a2baa62954e1953fb52449249f58553a57a"), looks := false }, kinds := [], alts := [], laidByText := true, laidKinds := [.data], laidTests := true, laidLooks := .later }
def SketchHiddenUptoCardSaid : Prop := Claim7.holds Tryd.pinned (.plain (OpenSpec.upto sketchHiddenSpec)) sketchHiddenUptoCard

/-- THE SECOND FORM's CARD OF 'whorllaw05.SketchPlaces'. -/
def sketchPlacesUptoCard : Claim7 := { stood := { row := sketchPlacesUptoRow, standIns := [], harness := (true, "71a0d2fc1dfb887579d8a1c2793d2a2baa62954e1953fb52449249f58553a57a"), looks := false }, kinds := [], alts := [], laidByText := true, laidKinds := [.data], laidTests := true, laidLooks := .later }
def SketchPlacesUptoCardSaid : Prop := Claim7.holds Tryd.pinned (.plain (OpenSpec.upto sketchPlacesSpec)) sketchPlacesUptoCard

/-- THE SECOND FORM's CARD OF 'whorllaw05.SketchBack'. -/
def sketchBackUptoCard : Claim7 := { stood := { row := sketchBackUptoRow, standIns := [], harness := (true, "71a0d2fc1dfb887579d8a1c2793d2a2baa62954e1953fb52449249f58553a57a"), looks := false }, kinds := [], alts := [], laidByText := true, laidKinds := [.data], laidTests := true, laidLooks := .later }
def SketchBackUptoCardSaid : Prop := Claim7.holds Tryd.pinned (.plain (OpenSpec.upto sketchBackSpec)) sketchBackUptoCard

/-- THE SECOND FORM's CARD OF 'whorllaw05.SketchOpened'. -/
def sketchOpenedUptoCard : Claim7 := { stood := { row := sketchOpenedUptoRow, standIns := [], harness := (true, "71a0d2fc1dfb887579d8a1c2793d2a2baa62954e1953fb52449249f58553a57a"), looks := false }, kinds := [], alts := [], laidByText := true, laidKinds := [.data], laidTests := true, laidLooks := .later }
def SketchOpenedUptoCardSaid : Prop := Claim7.holds Tryd.pinned (.plain (OpenSpec.upto sketchOpenedSpec)) sketchOpenedUptoCard

/-- THE SECOND FORM's CARD OF 'whorllaw05.SketchCodes'. -/
def sketchCodesUptoCard : Claim7 := { stood := { row := sketchCodesUptoRow, standIns := [], harness := (true, "71a0d2fc1dfb887579d8a1c2793d2a2baa62954e1953fb52449249f58553a57a"), looks := false }, kinds := [], alts := [], laidByText := true, laidKinds := [.data], laidTests := true, laidLooks := .later }
def SketchCodesUptoCardSaid : Prop := Claim7.holds Tryd.pinned (.plain (OpenSpec.upto sketchCodesSpec)) sketchCodesUptoCard

/-- THE SECOND FORM's CARD OF 'whorllaw05.SketchLeft'. -/
def sketchLeftUptoCard : Claim7 := { stood := { row := sketchLeftUptoRow, standIns := [], harness := (true, "71a0d2fc1dfb887579d8a1c2793d2a2baa62954e1953fb52449249f58553a57a"), looks := false }, kinds := [], alts := [], laidByText := true, laidKinds := [.data], laidTests := true, laidLooks := .later }
def SketchLeftUptoCardSaid : Prop := Claim7.holds Tryd.pinned (.plain (OpenSpec.upto sketchLeftSpec)) sketchLeftUptoCard

/-- THE SECOND FORM's CARD OF 'whorllaw05.SketchGuessed'. -/
def sketchGuessedUptoCard : Claim7 := { stood := { row := sketchGuessedUptoRow, standIns := [], harness := (true, "71a0d2fc1dfb887579d8a1c2793d2a2baa62954e1953fb52449249f58553a57a"), looks := false }, kinds := [], alts := [], laidByText := true, laidKinds := [.data], laidTests := true, laidLooks := .later }
def SketchGuessedUptoCardSaid : Prop := Claim7.holds Tryd.pinned (.plain (OpenSpec.upto sketchGuessedSpec)) sketchGuessedUptoCard

/-- THE SECOND FORM's CARD OF 'whorllaw05.SketchExamples'. -/
def sketchExamplesUptoCard : Claim7 := { stood := { row := sketchExamplesUptoRow, standIns := [], harness := (true, "71a0d2fc1dfb887579d8a1c2793d2a2baa62954e1953fb52449249f58553a57a"), looks := false }, kinds := [], alts := [], laidByText := true, laidKinds := [.data], laidTests := true, laidLooks := .later }
def SketchExamplesUptoCardSaid : Prop := Claim7.holds Tryd.pinned (.plain (OpenSpec.upto sketchExamplesSpec)) sketchExamplesUptoCard
end Rows
end Go.Proofs.YtnienfgaidccpaaDoor
