/-
  DERIVED. GIVEN WITH THE SEED: THE CARDS: each row of YtgpnlpieipoogaaGreatDoorRows.lean that lists a variable, with what it lists TIED to the program's text (the seventh form; the later family's looks); each row that meets fmt, with fmt's text TOLD by the authors' own Lean function (tested against real Go, not proved from fmt's source: count such statements apart). THE CARD IS WHAT COUNTS. Prove the row's statement (the work); the ties are given (YtgpnlpieipoogaaGreatDoorTie.lean); close each card by the builder's one call (the guide's Derived/Test/ToyasCard.lean, 'card_holds'). Laid BY PROGRAM, IN A SANDBOX (cutbox-door.mjs). By AI agents, Wed Nov 11 2026. No macro, syntax, notation, axiom, sorry.
-/
import Derived.Test.YtgpnlpieipoogaaGreatDoorRows
import GoSem.ClaimSeven
namespace Go.Proofs.YtgpnlpieipoogaaGreatDoor
namespace Rows

/-- THE TIED CARD OF 'ablautlaw07.ReplBack'. -/
def replBackCard : Claim7 := { stood := { row := replBackRow, standIns := [], harness := (true, "6db52d51e4665f1b21b36cac1b79b44880e277c9e7597eb4e95705e9c07652e4"), looks := true }, kinds := [], alts := [], laidByText := true, laidKinds := [.data, .pinned], laidTests := true, laidLooks := .later }
def ReplBackCardSaid : Prop := Claim7.holds Tryz.pinned (.plain (OpenSpec.ofChange replBackSpec)) replBackCard

/-- THE SECOND FORM's CARD OF 'ablautlaw07.ReplBack'. -/
def replBackUptoCard : Claim7 := { stood := { row := replBackUptoRow, standIns := [], harness := (true, "6db52d51e4665f1b21b36cac1b79b44880e277c9e7597eb4e95705e9c07652e4"), looks := true }, kinds := [], alts := [], laidByText := true, laidKinds := [.data, .pinned], laidTests := true, laidLooks := .later }
def ReplBackUptoCardSaid : Prop := Claim7.holds Tryz.pinned (.plain (OpenSpec.upto replBackSpec)) replBackUptoCard
end Rows
end Go.Proofs.YtgpnlpieipoogaaGreatDoor
