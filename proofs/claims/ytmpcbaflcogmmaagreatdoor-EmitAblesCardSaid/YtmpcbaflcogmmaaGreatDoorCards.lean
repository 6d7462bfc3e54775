/-
  DERIVED. GIVEN WITH THE SEED: THE CARDS: each row of YtmpcbaflcogmmaaGreatDoorRows.lean that lists a variable, with what it lists TIED to the program's text (the seventh form; the later family's looks); each row that meets fmt, with fmt's text TOLD by the authors' own Lean function (tested against real Go, not proved from fmt's source: count such statements apart). THE CARD IS WHAT COUNTS. Prove the row's statement (the work); the ties are given (YtmpcbaflcogmmaaGreatDoorTie.lean); close each card by the builder's one call (the guide's Derived/Test/ToyasCard.lean, 'card_holds'). Laid BY PROGRAM, IN A SANDBOX (cutbox-door.mjs). By AI agents, Wed Nov 11 2026. No macro, syntax, notation, axiom, sorry.
-/
import Derived.Test.YtmpcbaflcogmmaaGreatDoorRows
import GoSem.ClaimSeven
namespace Go.Proofs.YtmpcbaflcogmmaaGreatDoor
namespace Rows

/-- THE TIED CARD OF 'tableaulaw17.EmitAbles'. -/
def emitAblesCard : Claim7 := { stood := { row := emitAblesRow, standIns := [], harness := (true, "cf0258e5a081ab06f379fe3ba16c9edc3cc16907da499d51ec033224e5c7047a"), looks := false }, kinds := [], alts := [], laidByText := true, laidKinds := [.data, .data, .data], laidTests := true, laidLooks := .later }
def EmitAblesCardSaid : Prop := Claim7.holds Tryz.pinned (.plain (OpenSpec.ofChange emitAblesSpec)) emitAblesCard

/-- THE TIED CARD OF 'tableaulaw17.EmitPools'. -/
def emitPoolsCard : Claim7 := { stood := { row := emitPoolsRow, standIns := [], harness := (true, "cf0258e5a081ab06f379fe3ba16c9edc3cc16907da499d51ec033224e5c7047a"), looks := false }, kinds := [], alts := [], laidByText := true, laidKinds := [.data, .data, .data], laidTests := true, laidLooks := .later }
def EmitPoolsCardSaid : Prop := Claim7.holds Tryz.pinned (.plain (OpenSpec.ofChange emitPoolsSpec)) emitPoolsCard

/-- THE TIED CARD OF 'tableaulaw17.EmitPacks'. -/
def emitPacksCard : Claim7 := { stood := { row := emitPacksRow, standIns := [], harness := (true, "cf0258e5a081ab06f379fe3ba16c9edc3cc16907da499d51ec033224e5c7047a"), looks := false }, kinds := [], alts := [], laidByText := true, laidKinds := [.data, .data, .data], laidTests := true, laidLooks := .later }
def EmitPacksCardSaid : Prop := Claim7.holds Tryz.pinned (.plain (OpenSpec.ofChange emitPacksSpec)) emitPacksCard

/-- THE SECOND FORM's CARD OF 'tableaulaw17.EmitAbles'. -/
def emitAblesUptoCard : Claim7 := { stood := { row := emitAblesUptoRow, standIns := [], harness := (true, "cf0258e5a081ab06f379fe3ba16c9edc3cc16907da499d51ec033224e5c7047a"), looks := false }, kinds := [], alts := [], laidByText := true, laidKinds := [.data, .data, .data], laidTests := true, laidLooks := .later }
def EmitAblesUptoCardSaid : Prop := Claim7.holds Tryz.pinned (.plain (OpenSpec.upto emitAblesSpec)) emitAblesUptoCard

/-- THE SECOND FORM's CARD OF 'tableaulaw17.EmitPools'. -/
def emitPoolsUptoCard : Claim7 := { stood := { row := emitPoolsUptoRow, standIns := [], harness := (true, "cf0258e5a081ab06f379fe3ba16c9edc3cc16907da499d51ec033224e5c7047a"), looks := false }, kinds := [], alts := [], laidByText := true, laidKinds := [.data, .data, .data], laidTests := true, laidLooks := .later }
def EmitPoolsUptoCardSaid : Prop := Claim7.holds Tryz.pinned (.plain (OpenSpec.upto emitPoolsSpec)) emitPoolsUptoCard

/-- THE SECOND FORM's CARD OF 'tableaulaw17.EmitPacks'. -/
def emitPacksUptoCard : Claim7 := { stood := { row := emitPacksUptoRow, standIns := [], harness := (true, "cf0258e5a081ab06f379fe3ba16c9edc3cc16907da499d51ec033224e5c7047a"), looks := false }, kinds := [], alts := [], laidByText := true, laidKinds := [.data, .data, .data], laidTests := true, laidLooks := .later }
def EmitPacksUptoCardSaid : Prop := Claim7.holds Tryz.pinned (.plain (OpenSpec.upto emitPacksSpec)) emitPacksUptoCard
end Rows
end Go.Proofs.YtmpcbaflcogmmaaGreatDoor
