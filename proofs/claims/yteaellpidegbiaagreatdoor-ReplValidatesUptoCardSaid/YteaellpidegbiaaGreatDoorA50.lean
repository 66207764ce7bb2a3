/- Part 50 of the proof. -/
import Derived.Test.YteaellpidegbiaaGreatDoorCards
import Derived.Test.YteaellpidegbiaaGreatDoorTie
import Derived.WalkKit
import Derived.ProofKit
import Derived.OpenShut
import Derived.Carry
import Derived.Deep.DeepHandedRow
import Derived.Lib.LaidTab
set_option linter.unusedVariables false
set_option linter.unusedSimpArgs false
namespace Go.Proofs.YteaellpidegbiaaGreatDoor
open Go.ChangeShapes Go.WideShapes Go.ChangeAt Go.RowKit
theorem own : ownKnob Tryz.prog.godebug = none := by kernel_rfl
def cellsD : DataW Unit → List Value
  | .lit (.int k n) => [.int k n]
  | .agg ds => cellsDs ds
  | _ => []
where cellsDs : List (DataW Unit) → List Value
  | [] => []
  | d :: ds => cellsD d ++ cellsDs ds
def putCells (cs : Array Value) : Obj → Obj
  | .cells _ t frozen => .cells cs t frozen
  | o => o
noncomputable def laidWorld (os : Os) : World :=
  { World.holding Tryz.prog os ⟨#[], #[], []⟩ with heap := ((World.holding Tryz.prog os ⟨#[], #[], []⟩).heap.modify 1 (putCells (cellsD Rows.laid_unicode_utf8_first).toArray)).modify 2 (putCells (cellsD Rows.laid_unicode_utf8_acceptRanges).toArray) }
def noRule : Value := .agg #[.int .i64 0, .slice none 0 0, .slice none 0 0, .bool false]
set_option maxRecDepth 100000 in
theorem laid_met (os : Os) (v : Value) : laidMet Tryz.prog Rows.replValidatesUptoRow.laid ((laidWorld os).forCall (fun _ _ => 0) ⟨#[], #[v], []⟩).memory :=
  laidMet_of_run' 8 (by kernel_rfl) (by kernel_rfl)
set_option maxRecDepth 100000 in
theorem reads4 (os : Os) {H : Type} (enc' : TypeId × Value → H) : ∃ places, DataW.whole enc' Tryz.prog ((laidWorld os).forCall (fun _ _ => 0) ⟨#[], #[noRule], []⟩).memory Tryz.f4.params.toList Rows.replValidatesSpec.vars false #[noRule].toList 8 =
    some ([.agg [.lit (.int .i64 0), .nil, .nil, .lit (.bool false)]], [], places) :=
  ⟨[], by kernel_rfl⟩
end Go.Proofs.YteaellpidegbiaaGreatDoor
