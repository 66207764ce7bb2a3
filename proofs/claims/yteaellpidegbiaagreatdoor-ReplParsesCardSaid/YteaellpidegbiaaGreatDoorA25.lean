/- Part 25 of the proof. -/
import Derived.Deep.Slices
import Derived.Deep.Strs
import Derived.ChangeSame
import Derived.Lib.SmallJoins
import Derived.Test.YteaellpidegbiaaGreatDoorCards
import Derived.Test.YteaellpidegbiaaGreatDoorTie
import Derived.WalkKit
import Derived.ProofKit
import Derived.OpenShut
import Derived.Carry
import Derived.Deep.DeepHandedRow
import Derived.Lib.LaidTab
import Derived.Test.YteaellpidegbiaaGreatDoorA17
import Derived.Test.YteaellpidegbiaaGreatDoorA21
set_option linter.unusedVariables false
set_option linter.unusedSimpArgs false
namespace Go.Ab
open Go
def phi0:Phi:=fun _=>none
def sigW (w:World):Sig:=fun b o=>w.cell? (at_ b o)
theorem hrel0 (w:World):HRel phi0 (sigW w) [] w :=
 ⟨fun id L h=>(by cases h),fun id L h=>(by cases h),fun id b h=>(by simp at h),fun id id' b b' L L' h=>(by simp at h),fun _ _ _ h=>h,fun _ _=>rfl⟩
structure RelC (w:World) (vs:List AV) (cs:List Value):Prop where
 len:vs.length=cs.length
 rel:∀ i,VRel phi0 (sigW w) (vs.getD i .top) (cs.getD i undef)
section
variable {H:Type} {enc:TypeId × Value→H} {P:Program} {w:World} {base:Nat} {spare:Nat→Bool} {held:Bool}
theorem RelC.nil:RelC w [] []:=⟨rfl,fun i=>by simpa using VRel.top _⟩
theorem RelC.cons {v:AV} {c:Value} {vs:List AV} {cs:List Value} (h:VRel phi0 (sigW w) v c) (h2:RelC w vs cs):RelC w (v::vs) (c::cs) :=
 ⟨by simp [h2.len],fun i=>by
  cases i with
  | zero=>simpa using h
  | succ i=>simpa using h2.rel i⟩
theorem RelC.one {v:AV} {c:Value} (h:VRel phi0 (sigW w) v c):RelC w [v] [c]:=.cons h .nil
theorem RelC.append {a b:List AV} {c d:List Value} (h:RelC w a c) (k:RelC w b d):RelC w (a++b) (c++d):=by
 induction a generalizing c with
 | nil =>
  have:c=[]:=by have:=h.len;simpa using this.symm
  subst this;exact k
 | cons x xs ih =>
  match c,h with
  | [],h=>have:=h.len;simp at this
  | y::ys,h=>exact .cons (by simpa using h.rel 0) (ih ⟨by have:=h.len;simpa using this,fun i=>by simpa using h.rel (i+1)⟩)
theorem RelC.agg {vs:List AV} {cs:List Value} (h:RelC w vs cs):VRel phi0 (sigW w) (.agg vs) (.agg cs.toArray) :=
 .agg vs _ (by simpa using h.len) fun i=>by
  have:=h.rel i
  rw [List.getD_eq_getElem?_getD] at this ⊢
  simpa [List.getD_eq_getElem?_getD] using this
end
end Go.Ab
namespace Go.Proofs.YteaellpidegbiaaGreatDoor
open Go.ChangeShapes Go.WideShapes Go.ChangeAt Go.RowKit
theorem own:ownKnob Tryz.prog.godebug=none:=by kernel_rfl
def cellsD:DataW Unit→List Value
 | .lit (.int k n)=>[.int k n]
 | .agg ds=>cellsDs ds
 | _=>[]
where cellsDs:List (DataW Unit)→List Value
 | []=>[]
 | d::ds=>cellsD d++cellsDs ds
def putCells (cs:Array Value):Obj→Obj
 | .cells _ t frozen=>.cells cs t frozen
 | o=>o
noncomputable def laidWorld (os:Os):World :=
 { World.holding Tryz.prog os ⟨#[],#[],[]⟩ with heap:=((World.holding Tryz.prog os ⟨#[],#[],[]⟩).heap.modify 1 (putCells (cellsD Rows.laid_unicode_utf8_first).toArray)).modify 2 (putCells (cellsD Rows.laid_unicode_utf8_acceptRanges).toArray) }
end Go.Proofs.YteaellpidegbiaaGreatDoor
