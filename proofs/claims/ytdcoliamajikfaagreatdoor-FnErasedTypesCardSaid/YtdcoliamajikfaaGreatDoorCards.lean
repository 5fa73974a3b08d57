/-
  DERIVED. GIVEN WITH THE SEED: THE CARDS: each row of YtdcoliamajikfaaGreatDoorRows.lean that lists a variable, with what it lists TIED to the program's text (the seventh form; the later family's looks); each row that meets fmt, with fmt's text TOLD by the authors' own Lean function (tested against real Go, not proved from fmt's source: count such statements apart). THE CARD IS WHAT COUNTS. Prove the row's statement (the work); the ties are given (YtdcoliamajikfaaGreatDoorTie.lean); close each card by the builder's one call (the guide's Derived/Test/ToyasCard.lean, 'card_holds'). Laid BY PROGRAM, IN A SANDBOX (cutbox-door.mjs). By AI agents, Wed Nov 11 2026. No macro, syntax, notation, axiom, sorry.
-/
import Derived.Test.YtdcoliamajikfaaGreatDoorRows
import GoSem.ClaimSeven
namespace Go.Proofs.YtdcoliamajikfaaGreatDoor
namespace Rows

/-- THE TIED CARD OF 'laws.FnErasedTypes'. -/
def fnErasedTypesCard : Claim7 := { stood := { row := fnErasedTypesRow, standIns := [], harness := (true, "15b555b65a87fba0d1ac1dd8772d4df265e428ae2e96a06423ba70c73a5ac805"), looks := true }, kinds := [], alts := [], laidByText := true, laidKinds := [.data, .data, .data, .sentinel, .sentinel], laidTests := true, laidLooks := .later }
def FnErasedTypesCardSaid : Prop := Claim7.holds Tryz.pinned (.plain (OpenSpec.ofChange fnErasedTypesSpec)) fnErasedTypesCard

/-- THE TIED CARD OF 'laws.FnExactParseType'. -/
def fnExactParseTypeCard : Claim7 := { stood := { row := fnExactParseTypeRow, standIns := [], harness := (true, "15b555b65a87fba0d1ac1dd8772d4df265e428ae2e96a06423ba70c73a5ac805"), looks := true }, kinds := [], alts := [], laidByText := true, laidKinds := [.data, .data, .data, .sentinel, .sentinel], laidTests := true, laidLooks := .later }
def FnExactParseTypeCardSaid : Prop := Claim7.holds Tryz.pinned (.plain (OpenSpec.ofChange fnExactParseTypeSpec)) fnExactParseTypeCard

/-- THE SECOND FORM's CARD OF 'laws.FnErasedTypes'. -/
def fnErasedTypesUptoCard : Claim7 := { stood := { row := fnErasedTypesUptoRow, standIns := [], harness := (true, "15b555b65a87fba0d1ac1dd8772d4df265e428ae2e96a06423ba70c73a5ac805"), looks := true }, kinds := [], alts := [], laidByText := true, laidKinds := [.data, .data, .data, .sentinel, .sentinel], laidTests := true, laidLooks := .later }
def FnErasedTypesUptoCardSaid : Prop := Claim7.holds Tryz.pinned (.plain (OpenSpec.upto fnErasedTypesSpec)) fnErasedTypesUptoCard

/-- THE SECOND FORM's CARD OF 'laws.FnExactParseType'. -/
def fnExactParseTypeUptoCard : Claim7 := { stood := { row := fnExactParseTypeUptoRow, standIns := [], harness := (true, "15b555b65a87fba0d1ac1dd8772d4df265e428ae2e96a06423ba70c73a5ac805"), looks := true }, kinds := [], alts := [], laidByText := true, laidKinds := [.data, .data, .data, .sentinel, .sentinel], laidTests := true, laidLooks := .later }
def FnExactParseTypeUptoCardSaid : Prop := Claim7.holds Tryz.pinned (.plain (OpenSpec.upto fnExactParseTypeSpec)) fnExactParseTypeUptoCard
end Rows
end Go.Proofs.YtdcoliamajikfaaGreatDoor
