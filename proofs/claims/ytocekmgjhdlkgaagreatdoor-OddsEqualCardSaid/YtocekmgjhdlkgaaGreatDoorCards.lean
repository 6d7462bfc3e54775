/-
  DERIVED. GIVEN WITH THE SEED: THE CARDS: each row of YtocekmgjhdlkgaaGreatDoorRows.lean that lists a variable, with what it lists TIED to the program's text (the seventh form; the later family's looks); each row that meets fmt, with fmt's text TOLD by the authors' own Lean function (tested against real Go, not proved from fmt's source: count such statements apart). THE CARD IS WHAT COUNTS. Prove the row's statement (the work); the ties are given (YtocekmgjhdlkgaaGreatDoorTie.lean); close each card by the builder's one call (the guide's Derived/Test/ToyasCard.lean, 'card_holds'). Laid BY PROGRAM, IN A SANDBOX (cutbox-door.mjs). By AI agents, Wed Nov 11 2026. No macro, syntax, notation, axiom, sorry.
-/
import Derived.Test.YtocekmgjhdlkgaaGreatDoorRows
import GoSem.ClaimSeven
namespace Go.Proofs.YtocekmgjhdlkgaaGreatDoor
namespace Rows

/-- THE TIED CARD OF 'tableaulaw29.OddsWelfords'. -/
def oddsWelfordsCard : Claim7 := { stood := { row := oddsWelfordsRow, standIns := [], harness := (true, "5e3cc8fe08f8c52755ad0b8ea63b3c436300ffb28c6801280ca79d5f3ee11f75"), looks := true }, kinds := [], alts := [], laidByText := true, laidKinds := [.data, .data, .data], laidTests := true, laidLooks := .later }
def OddsWelfordsCardSaid : Prop := Claim7.holds Tryz.pinned (.plain (OpenSpec.ofChange oddsWelfordsSpec)) oddsWelfordsCard

/-- THE TIED CARD OF 'tableaulaw29.OddsEqual'. -/
def oddsEqualCard : Claim7 := { stood := { row := oddsEqualRow, standIns := [], harness := (true, "5e3cc8fe08f8c52755ad0b8ea63b3c436300ffb28c6801280ca79d5f3ee11f75"), looks := true }, kinds := [], alts := [], laidByText := true, laidKinds := [.data, .data, .data], laidTests := true, laidLooks := .later }
def OddsEqualCardSaid : Prop := Claim7.holds Tryz.pinned (.plain (OpenSpec.ofChange oddsEqualSpec)) oddsEqualCard

/-- THE SECOND FORM's CARD OF 'tableaulaw29.OddsWelfords'. -/
def oddsWelfordsUptoCard : Claim7 := { stood := { row := oddsWelfordsUptoRow, standIns := [], harness := (true, "5e3cc8fe08f8c52755ad0b8ea63b3c436300ffb28c6801280ca79d5f3ee11f75"), looks := true }, kinds := [], alts := [], laidByText := true, laidKinds := [.data, .data, .data], laidTests := true, laidLooks := .later }
def OddsWelfordsUptoCardSaid : Prop := Claim7.holds Tryz.pinned (.plain (OpenSpec.upto oddsWelfordsSpec)) oddsWelfordsUptoCard

/-- THE SECOND FORM's CARD OF 'tableaulaw29.OddsEqual'. -/
def oddsEqualUptoCard : Claim7 := { stood := { row := oddsEqualUptoRow, standIns := [], harness := (true, "5e3cc8fe08f8c52755ad0b8ea63b3c436300ffb28c6801280ca79d5f3ee11f75"), looks := true }, kinds := [], alts := [], laidByText := true, laidKinds := [.data, .data, .data], laidTests := true, laidLooks := .later }
def OddsEqualUptoCardSaid : Prop := Claim7.holds Tryz.pinned (.plain (OpenSpec.upto oddsEqualSpec)) oddsEqualUptoCard
end Rows
end Go.Proofs.YtocekmgjhdlkgaaGreatDoor
