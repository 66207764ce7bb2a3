/-
  DERIVED. GIVEN WITH THE SEED: THE CARDS: each row of YtagcckioikbanaaGreatDoorRows.lean that lists a variable, with what it lists TIED to the program's text (the seventh form; the later family's looks); each row that meets fmt, with fmt's text TOLD by the authors' own Lean function (tested against real Go, not proved from fmt's source: count such statements apart). THE CARD IS WHAT COUNTS. Prove the row's statement (the work); the ties are given (YtagcckioikbanaaGreatDoorTie.lean); close each card by the builder's one call (the guide's Derived/Test/ToyasCard.lean, 'card_holds'). Laid BY PROGRAM, IN A SANDBOX (cutbox-door.mjs). By AI agents, Wed Nov 11 2026. No macro, syntax, notation, axiom, sorry.
-/
import Derived.Test.YtagcckioikbanaaGreatDoorRows
import GoSem.ClaimSeven
namespace Go.Proofs.YtagcckioikbanaaGreatDoor
namespace Rows

/-- THE TIED CARD OF 'ablautlaw07.ReplHolds'. -/
def replHoldsCard : Claim7 := { stood := { row := replHoldsRow, standIns := [], harness := (true, "f58b99926d344572821b86972d85989affdd49a532acb20553513f674816f57a"), looks := true }, kinds := [], alts := [], laidByText := true, laidKinds := [.data, .data, .data, .data, .pinned], laidTests := true, laidLooks := .later }
def ReplHoldsCardSaid : Prop := Claim7.holds Tryz.pinned (.plain (OpenSpec.ofChange replHoldsSpec)) replHoldsCard

/-- THE TIED CARD OF 'ablautlaw07.ReplMatches'. -/
def replMatchesCard : Claim7 := { stood := { row := replMatchesRow, standIns := [], harness := (true, "f58b99926d344572821b86972d85989affdd49a532acb20553513f674816f57a"), looks := true }, kinds := [], alts := [], laidByText := true, laidKinds := [.data, .data, .data, .data, .pinned], laidTests := true, laidLooks := .later }
def ReplMatchesCardSaid : Prop := Claim7.holds Tryz.pinned (.plain (OpenSpec.ofChange replMatchesSpec)) replMatchesCard

/-- THE SECOND FORM's CARD OF 'ablautlaw07.ReplHolds'. -/
def replHoldsUptoCard : Claim7 := { stood := { row := replHoldsUptoRow, standIns := [], harness := (true, "f58b99926d344572821b86972d85989affdd49a532acb20553513f674816f57a"), looks := true }, kinds := [], alts := [], laidByText := true, laidKinds := [.data, .data, .data, .data, .pinned], laidTests := true, laidLooks := .later }
def ReplHoldsUptoCardSaid : Prop := Claim7.holds Tryz.pinned (.plain (OpenSpec.upto replHoldsSpec)) replHoldsUptoCard

/-- THE SECOND FORM's CARD OF 'ablautlaw07.ReplMatches'. -/
def replMatchesUptoCard : Claim7 := { stood := { row := replMatchesUptoRow, standIns := [], harness := (true, "f58b99926d344572821b86972d85989affdd49a532acb20553513f674816f57a"), looks := true }, kinds := [], alts := [], laidByText := true, laidKinds := [.data, .data, .data, .data, .pinned], laidTests := true, laidLooks := .later }
def ReplMatchesUptoCardSaid : Prop := Claim7.holds Tryz.pinned (.plain (OpenSpec.upto replMatchesSpec)) replMatchesUptoCard
end Rows
end Go.Proofs.YtagcckioikbanaaGreatDoor
