/-
  DERIVED. GIVEN WITH THE SEED: THE CARDS: each row of YtabpheanbomibaaGreatDoorRows.lean that lists a variable, with what it lists TIED to the program's text (the seventh form; the later family's looks); each row that meets fmt, with fmt's text TOLD by the authors' own Lean function (tested against real Go, not proved from fmt's source: count such statements apart). THE CARD IS WHAT COUNTS. Prove the row's statement (the work); the ties are given (YtabpheanbomibaaGreatDoorTie.lean); close each card by the builder's one call (the guide's Derived/Test/ToyasCard.lean, 'card_holds'). Laid BY PROGRAM, IN A SANDBOX (cutbox-door.mjs). By AI agents, Wed Nov 11 2026. No macro, syntax, notation, axiom, sorry.
-/
import Derived.Test.YtabpheanbomibaaGreatDoorRows
import GoSem.ClaimSeven
namespace Go.Proofs.YtabpheanbomibaaGreatDoor
namespace Rows

/-- THE TIED CARD OF 'tableaulaw20.VerifyCodes'. -/
def verifyCodesCard : Claim7 := { stood := { row := verifyCodesRow, standIns := [], harness := (true, "a49856e39a0b039e1ea5d482c9a4b6c9495c0953760214a6ca50cec63a589efa"), looks := false }, kinds := [], alts := [], laidByText := true, laidKinds := [.data, .data, .data], laidTests := true, laidLooks := .later }
def VerifyCodesCardSaid : Prop := Claim7.holds Tryz.pinned (.plain (OpenSpec.ofChange verifyCodesSpec)) verifyCodesCard

/-- THE TIED CARD OF 'tableaulaw20.VerifyPacks'. -/
def verifyPacksCard : Claim7 := { stood := { row := verifyPacksRow, standIns := [], harness := (true, "a49856e39a0b039e1ea5d482c9a4b6c9495c0953760214a6ca50cec63a589efa"), looks := false }, kinds := [], alts := [], laidByText := true, laidKinds := [.data, .data, .data], laidTests := true, laidLooks := .later }
def VerifyPacksCardSaid : Prop := Claim7.holds Tryz.pinned (.plain (OpenSpec.ofChange verifyPacksSpec)) verifyPacksCard

/-- THE SECOND FORM's CARD OF 'tableaulaw20.VerifyCodes'. -/
def verifyCodesUptoCard : Claim7 := { stood := { row := verifyCodesUptoRow, standIns := [], harness := (true, "a49856e39a0b039e1ea5d482c9a4b6c9495c0953760214a6ca50cec63a589efa"), looks := false }, kinds := [], alts := [], laidByText := true, laidKinds := [.data, .data, .data], laidTests := true, laidLooks := .later }
def VerifyCodesUptoCardSaid : Prop := Claim7.holds Tryz.pinned (.plain (OpenSpec.upto verifyCodesSpec)) verifyCodesUptoCard

/-- THE SECOND FORM's CARD OF 'tableaulaw20.VerifyPacks'. -/
def verifyPacksUptoCard : Claim7 := { stood := { row := verifyPacksUptoRow, standIns := [], harness := (true, "a49856e39a0b039e1ea5d482c9a4b6c9495c0953760214a6ca50cec63a589efa"), looks := false }, kinds := [], alts := [], laidByText := true, laidKinds := [.data, .data, .data], laidTests := true, laidLooks := .later }
def VerifyPacksUptoCardSaid : Prop := Claim7.holds Tryz.pinned (.plain (OpenSpec.upto verifyPacksSpec)) verifyPacksUptoCard
end Rows
end Go.Proofs.YtabpheanbomibaaGreatDoor
