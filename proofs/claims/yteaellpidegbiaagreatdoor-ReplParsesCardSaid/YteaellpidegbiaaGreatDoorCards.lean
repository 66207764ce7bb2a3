/-
  DERIVED. GIVEN WITH THE SEED: THE CARDS: each row of YteaellpidegbiaaGreatDoorRows.lean that lists a variable, with what it lists TIED to the program's text (the seventh form; the later family's looks); each row that meets fmt, with fmt's text TOLD by the authors' own Lean function (tested against real Go, not proved from fmt's source: count such statements apart). THE CARD IS WHAT COUNTS. Prove the row's statement (the work); the ties are given (YteaellpidegbiaaGreatDoorTie.lean); close each card by the builder's one call (the guide's Derived/Test/ToyasCard.lean, 'card_holds'). Laid BY PROGRAM, IN A SANDBOX (cutbox-door.mjs). By AI agents, Wed Nov 11 2026. No macro, syntax, notation, axiom, sorry.
-/
import Derived.Test.YteaellpidegbiaaGreatDoorRows
import GoSem.ClaimSeven
namespace Go.Proofs.YteaellpidegbiaaGreatDoor
namespace Rows

/-- THE TIED CARD OF 'ablautlaw07.ReplParses'. -/
def replParsesCard : Claim7 := { stood := { row := replParsesRow, standIns := [], harness := (true, "95fcdc2c2b4a188b69a6b6f90f2870540875ebf775c443db70c9e32bbd64c6f8"), looks := true }, kinds := [], alts := [], laidByText := true, laidKinds := [.data, .pinned], laidTests := true, laidLooks := .later }
def ReplParsesCardSaid : Prop := Claim7.holds Tryz.pinned (.plain (OpenSpec.ofChange replParsesSpec)) replParsesCard

/-- THE TIED CARD OF 'ablautlaw07.ReplValidates'. -/
def replValidatesCard : Claim7 := { stood := { row := replValidatesRow, standIns := [], harness := (true, "95fcdc2c2b4a188b69a6b6f90f2870540875ebf775c443db70c9e32bbd64c6f8"), looks := true }, kinds := [], alts := [], laidByText := true, laidKinds := [.data, .pinned], laidTests := true, laidLooks := .later }
def ReplValidatesCardSaid : Prop := Claim7.holds Tryz.pinned (.plain (OpenSpec.ofChange replValidatesSpec)) replValidatesCard

/-- THE SECOND FORM's CARD OF 'ablautlaw07.ReplParses'. -/
def replParsesUptoCard : Claim7 := { stood := { row := replParsesUptoRow, standIns := [], harness := (true, "95fcdc2c2b4a188b69a6b6f90f2870540875ebf775c443db70c9e32bbd64c6f8"), looks := true }, kinds := [], alts := [], laidByText := true, laidKinds := [.data, .pinned], laidTests := true, laidLooks := .later }
def ReplParsesUptoCardSaid : Prop := Claim7.holds Tryz.pinned (.plain (OpenSpec.upto replParsesSpec)) replParsesUptoCard

/-- THE SECOND FORM's CARD OF 'ablautlaw07.ReplValidates'. -/
def replValidatesUptoCard : Claim7 := { stood := { row := replValidatesUptoRow, standIns := [], harness := (true, "95fcdc2c2b4a188b69a6b6f90f2870540875ebf775c443db70c9e32bbd64c6f8"), looks := true }, kinds := [], alts := [], laidByText := true, laidKinds := [.data, .pinned], laidTests := true, laidLooks := .later }
def ReplValidatesUptoCardSaid : Prop := Claim7.holds Tryz.pinned (.plain (OpenSpec.upto replValidatesSpec)) replValidatesUptoCard
end Rows
end Go.Proofs.YteaellpidegbiaaGreatDoor
