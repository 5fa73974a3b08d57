/-
  DERIVED. GIVEN WITH THE SEED: THE CARDS: each row of YtkgbnffcaabafaaGreatDoorRows.lean that lists a variable, with what it lists TIED to the program's text (the seventh form; the later family's looks); each row that meets fmt, with fmt's text TOLD by the authors' own Lean function (tested against real Go, not proved from fmt's source: count such statements apart). THE CARD IS WHAT COUNTS. Prove the row's statement (the work); the ties are given (YtkgbnffcaabafaaGreatDoorTie.lean); close each card by the builder's one call (the guide's Derived/Test/ToyasCard.lean, 'card_holds'). Laid BY PROGRAM, IN A SANDBOX (cutbox-door.mjs). By AI agents, Wed Nov 11 2026. No macro, syntax, notation, axiom, sorry.
-/
import Derived.Test.YtkgbnffcaabafaaGreatDoorRows
import GoSem.ClaimSeven
namespace Go.Proofs.YtkgbnffcaabafaaGreatDoor
namespace Rows

/-- THE TIED CARD OF 'laws.FnExactDiagnostic'. -/
def fnExactDiagnosticCard : Claim7 := { stood := { row := fnExactDiagnosticRow, standIns := [], harness := (true, "33ea5df37e480fab4ba190fea624ce904218cd9de03182bc47858a7719b233a4"), looks := true }, kinds := [], alts := [], laidByText := true, laidKinds := [.data, .data, .data, .sentinel, .sentinel], laidTests := true, laidLooks := .later }
def FnExactDiagnosticCardSaid : Prop := Claim7.holds Tryz.pinned (.plain (OpenSpec.ofChange fnExactDiagnosticSpec)) fnExactDiagnosticCard

/-- THE TIED CARD OF 'laws.FnExactIsCanonical'. -/
def fnExactIsCanonicalCard : Claim7 := { stood := { row := fnExactIsCanonicalRow, standIns := [], harness := (true, "33ea5df37e480fab4ba190fea624ce904218cd9de03182bc47858a7719b233a4"), looks := true }, kinds := [], alts := [], laidByText := true, laidKinds := [.data, .data, .data, .sentinel, .sentinel], laidTests := true, laidLooks := .later }
def FnExactIsCanonicalCardSaid : Prop := Claim7.holds Tryz.pinned (.plain (OpenSpec.ofChange fnExactIsCanonicalSpec)) fnExactIsCanonicalCard

/-- THE SECOND FORM's CARD OF 'laws.FnExactDiagnostic'. -/
def fnExactDiagnosticUptoCard : Claim7 := { stood := { row := fnExactDiagnosticUptoRow, standIns := [], harness := (true, "33ea5df37e480fab4ba190fea624ce904218cd9de03182bc47858a7719b233a4"), looks := true }, kinds := [], alts := [], laidByText := true, laidKinds := [.data, .data, .data, .sentinel, .sentinel], laidTests := true, laidLooks := .later }
def FnExactDiagnosticUptoCardSaid : Prop := Claim7.holds Tryz.pinned (.plain (OpenSpec.upto fnExactDiagnosticSpec)) fnExactDiagnosticUptoCard

/-- THE SECOND FORM's CARD OF 'laws.FnExactIsCanonical'. -/
def fnExactIsCanonicalUptoCard : Claim7 := { stood := { row := fnExactIsCanonicalUptoRow, standIns := [], harness := (true, "33ea5df37e480fab4ba190fea624ce904218cd9de03182bc47858a7719b233a4"), looks := true }, kinds := [], alts := [], laidByText := true, laidKinds := [.data, .data, .data, .sentinel, .sentinel], laidTests := true, laidLooks := .later }
def FnExactIsCanonicalUptoCardSaid : Prop := Claim7.holds Tryz.pinned (.plain (OpenSpec.upto fnExactIsCanonicalSpec)) fnExactIsCanonicalUptoCard
end Rows
end Go.Proofs.YtkgbnffcaabafaaGreatDoor
