/- Part 26 of the proof. -/
import Derived.Deep.Slices
import Derived.Deep.Strs
import Derived.ChangeSame
import Derived.Lib.SmallJoins
import Derived.Test.YtagcckioikbanaaGreatDoorCards
import Derived.Test.YtagcckioikbanaaGreatDoorTie
import Derived.WalkKit
import Derived.ProofKit
import Derived.OpenShut
import Derived.Carry
import Derived.Deep.DeepHandedRow
import Derived.Lib.LaidTab
import Derived.JoinedCond
import Derived.Test.YtagcckioikbanaaGreatDoorM17
import Derived.Test.YtagcckioikbanaaGreatDoorM21
set_option linter.unusedVariables false
set_option linter.unusedSimpArgs false
namespace Go.Ab
open Go
def zQS:Phi:=fun _=>none
def zQR (w:World):Sig:=fun b o=>w.cell? (at_ b o)
theorem zZT (w:World):HRel zQS (zQR w) [] w :=
 ⟨fun id L h=>(by cases h),fun id L h=>(by cases h),fun id b h=>(by simp at h),fun id id' b b' L L' h=>(by simp at h),fun _ _ _ h=>h,fun _ _=>rfl⟩
structure RelC (w:World) (vs:List AV) (cs:List Value):Prop where
 len:vs.length=cs.length
 rel:∀ i,VRel zQS (zQR w) (vs.getD i .top) (cs.getD i undef)
section
variable {H:Type} {enc:TypeId × Value→H} {P:Program} {w:World} {base:Nat} {spare:Nat→Bool} {held:Bool}
theorem RelC.nil:RelC w [] []:=⟨rfl,fun i=>by simpa using VRel.top _⟩
theorem RelC.cons {v:AV} {c:Value} {vs:List AV} {cs:List Value} (h:VRel zQS (zQR w) v c) (h2:RelC w vs cs):RelC w (v::vs) (c::cs) :=
 ⟨by simp [h2.len],fun i=>by
  cases i with
  | zero=>simpa using h
  | succ i=>simpa using h2.rel i⟩
theorem RelC.one {v:AV} {c:Value} (h:VRel zQS (zQR w) v c):RelC w [v] [c]:=.cons h .nil
theorem RelC.append {a b:List AV} {c d:List Value} (h:RelC w a c) (k:RelC w b d):RelC w (a++b) (c++d):=by
 induction a generalizing c with
 | nil =>
  have:c=[]:=by have:=h.len;simpa using this.symm
  subst this;exact k
 | cons x xs ih =>
  match c,h with
  | [],h=>have:=h.len;simp at this
  | y::ys,h=>exact .cons (by simpa using h.rel 0) (ih ⟨by have:=h.len;simpa using this,fun i=>by simpa using h.rel (i+1)⟩)
theorem RelC.agg {vs:List AV} {cs:List Value} (h:RelC w vs cs):VRel zQS (zQR w) (.agg vs) (.agg cs.toArray) :=
 .agg vs _ (by simpa using h.len) fun i=>by
  have:=h.rel i
  rw [lAB] at this ⊢
  simpa [lAB] using this
theorem zJk {a:Addr} {v:Value} (h:w.cell? a=some v):a=at_ a.block a.off:=by
 unfold World.cell? at h
 split at h
 ·cases hs:a.spot with
  | none=>cases a;simp only at hs;subst hs;rfl
  | some s=>rw [hs] at h;simp at h
 ·cases h
theorem zQr (b o i:Nat):(at_ b o).add i=at_ b (o+i):=by
 unfold Addr.add at_
 split
 ·rename_i h;subst h;rfl
 ·rfl
def z5N:DataW H→List (DataW H)
 | .slice es _=>es
 | _=>[]
theorem z7r {α:Type} {f:α→AV} {R:α→DataW H→Prop} {t e:TypeId} {sz:Nat} (ht:P.underlying t=some (.slice e)) (hc:P.cellsOf e=sz) (hpos:0<sz)
  (hf:∀ a,(f a).cells.length=sz) (hsp:∀ b,spare b=true) {fuel:Nat} {cs:List Value} {x:DataW H × List MemPlace} (h:DataW.trod enc P w base spare held fuel t cs=some x)
  (hel:∀ n cs' y,n<fuel→DataW.trod enc P w base spare held n e cs'=some y→∃ a,RelC w (f a).cells cs'∧R a y.1) :
  ∃ (nl:Bool) (l:List α),RelC w [if nl&&l.isEmpty then .nilslice else .list sz (l.map f)] cs∧l.length=(z5N x.1).length ∧
   ((x.1=.nil)∨∃ sp,x.1=.slice (z5N x.1) sp)∧∀ (i:Nat) (a:α),l[i]? =some a→∃ d,(z5N x.1)[i]? =some d∧R a d:=by
 rcases DataW.trod_slice ht h with ⟨rfl,rfl⟩ | ⟨a,len,cap,elems,rest,n,rfl,rfl,rfl,hb,hl,hm,hlen,hi,hr,_⟩
 ·exact ⟨true,[],.one .nilslice,rfl,.inl rfl,fun i a h=>by simp at h⟩
 rw [hc] at hi hr
 have hr:=(hr (hsp _))
 have each:∀ i,i<len→∃ p:α × (List Value),RelC w (f p.1).cells p.2∧w.cells? base (a.add (i*sz)) sz=some p.2∧∃ y,elems[i]? =some y∧R p.1 y.1:=by
  intro i hil
  have h1:=hi i hil
  have h2:elems[i]? =some elems[i]:=lAG (by omega)
  rw [h2,Option.bind_eq_some_iff] at h1
  obtain ⟨cs',hc',hy⟩:=h1
  obtain ⟨b,hb1,hb2⟩:=hel n cs' _ (Nat.lt_succ_self n) hy
  exact ⟨(b,cs'),hb1,hc',_,h2,hb2⟩
 by_cases h0:cap=0
 ·subst h0
  have:len=0:=by omega
  subst this
  have:elems=[]:=by simpa using hlen
  subst this
  have:rest=[]:=by have:=hr.1;simpa using this
  subst this
  exact ⟨false,[],.one (.elist sz a),rfl,.inr ⟨_,rfl⟩,fun i a h=>by simp at h⟩
 have ha:a=at_ a.block a.off:=by
  have:∃ cs',w.cells? base (a.add (0*sz)) sz=some cs':=by
   by_cases hl0:len=0
   ·subst hl0
    have h1:=hr.2 0 (by omega)
    have h2:rest[0]? =some rest[0]:=lAG (by have:=hr.1;omega)
    rw [h2,Option.bind_eq_some_iff] at h1
    obtain ⟨cs',hc',_⟩:=h1
    exact ⟨cs',by simpa using hc'⟩
   ·obtain ⟨p,_,hc',_⟩:=each 0 (by omega)
    exact ⟨_,hc'⟩
  obtain ⟨cs',hc'⟩:=this
  obtain ⟨_,hl',hcell⟩:=World.cells?_some hc'
  have:=hcell 0 hpos
  rw [lAG (by omega)] at this
  rw [Nat.zero_mul] at this
  exact zJk (a:=a) (by simpa [Addr.add] using this)
 generalize a.block=b at *
 generalize a.off=o at *
 subst ha
 match hle:elems,len,hlen with
 | [],_,rfl =>
  refine ⟨false,[],.one (.list sz [] b o 0 cap (fun _=>undef) (by simp) rfl (by omega) (by simp [z0j]) (by simp [z0j];exact .top _)),rfl,.inr ⟨_,rfl⟩,fun i a h=>by simp at h⟩
 | e0::es,_,rfl =>
 obtain ⟨p0,_⟩:=each 0 (by simp)
 haveI:Inhabited (α × List Value):=⟨p0⟩
 obtain ⟨F,hF⟩:=Go.Deep.choose_lt each
 have hln:((List.range (e0::es).length).map fun i=>(F i).1).length=(e0::es).length:=by simp
 refine ⟨false,(List.range (e0::es).length).map fun i=>(F i).1,.one ?_,by simp [z5N],.inr ⟨_,rfl⟩,?_⟩
 ·simp only [lD8,lAV,if_false]
  have hsz:∀ x∈((List.range (e0::es).length).map fun i=>(F i).1).map f,x.cells.length=sz:=by
   intro x hx
   obtain ⟨q,_,rfl⟩:=lA4.1 hx
   exact hf q
  have hgd:∀ k,k<(e0::es).length→(((List.range (e0::es).length).map fun i=>(F i).1).map f).getD k .top=f (F k).1:=by
   intro k hk
   rw [lAB,lAM,lAM,lCM hk];rfl
  have hfl:=z0y hsz
  rw [lAE,hln] at hfl
  have key:∀ i,i<(e0::es).length*sz→∃ v,w.cell? (at_ b (o+i))=some v∧VRel zQS (zQR w) ((z0j (((List.range (e0::es).length).map fun i=>(F i).1).map f)).getD i .top) v:=by
   intro i hi
   have hk:i / sz<(e0::es).length:=by rw [Nat.div_lt_iff_lt_mul hpos];exact hi
   have hj:i % sz<sz:=Nat.mod_lt _ hpos
   have hij:i / sz*sz+i % sz=i:=by rw [Nat.mul_comm];exact Nat.div_add_mod i sz
   obtain ⟨h1,h2,_⟩:=hF _ hk
   obtain ⟨_,hl',hcell⟩:=World.cells?_some h2
   have h3:=hcell _ hj
   rw [zQr,zQr,lBK,hij] at h3
   rw [lAG (by omega)] at h3
   refine ⟨_,h3,?_⟩
   have h4:=(z9b _ (i / sz) (i % sz) hsz (by simpa using hk) hj).1
   rw [hij,hgd _ hk] at h4
   rw [lAB,h4,←lAB]
   have h5:=h1.rel (i % sz)
   rw [lAB (l:=(F (i / sz)).2),lAG (by omega)] at h5
   exact h5
  refine .list sz _ b o _ cap (fun i=>(w.cell? (at_ b (o+i))).getD undef) hsz (by simp) hl (fun i hi=>?_) (fun i=>?_)
  ·obtain ⟨v,h1,_⟩:=key i (by omega)
   show w.cell? (at_ b (o+i))=some ((w.cell? (at_ b (o+i))).getD undef)
   rw [h1];rfl
  ·by_cases hi:i<(e0::es).length*sz
   ·obtain ⟨v,h1,h2⟩:=key i hi
    rw [h1];exact h2
   ·rw [lAB,lBG (by omega)];exact .top _
 ·intro i a' h
  rw [lAM] at h
  by_cases hi:i<(e0::es).length
  ·rw [lCM hi] at h
   simp only [lBH] at h
   injection h with h;subst h
   obtain ⟨_,_,y,h1,h2⟩:=hF i hi
   exact ⟨y.1,by simp only [z5N,lAM,h1,lBH],h2⟩
  ·rw [lBG (by simpa using hi)] at h;cases h
theorem zEc {t:TypeId} (ht:P.underlying t=some .string) {fuel:Nat} {cs:List Value} {x:DataW H × List MemPlace} (h:DataW.trod enc P w base spare held fuel t cs=some x) :
  ∃ s:List UInt8,RelC w [.str s] cs∧x.1=.lit (.string s):=by
 obtain ⟨s,rfl,rfl,_⟩:=DataW.trod_string ht h
 exact ⟨_,.one (.str _ _ rfl),rfl⟩
theorem zEd {t:TypeId} {k:IntKind} (ht:P.underlying t=some (.int k)) {fuel:Nat} {cs:List Value} {x:DataW H × List MemPlace} (h:DataW.trod enc P w base spare held fuel t cs=some x) :
  ∃ n:Int,RelC w [.int k n] cs∧x.1=.lit (.int k n):=by
 obtain ⟨s,rfl,rfl,_⟩:=DataW.trod_int ht h
 exact ⟨_,.one (.int _ _),rfl⟩
theorem zJq {t:TypeId} (ht:P.underlying t=some .bool) {fuel:Nat} {cs:List Value} {x:DataW H × List MemPlace} (h:DataW.trod enc P w base spare held fuel t cs=some x) :
  ∃ b:Bool,RelC w [.bool b] cs∧x.1=.lit (.bool b):=by
 obtain ⟨s,rfl,rfl⟩:=DataW.trod_bool ht h
 exact ⟨_,.one (.bool _),rfl⟩
end
end Go.Ab
namespace Go.Proofs.YtagcckioikbanaaGreatDoor
open Go.ChangeShapes Go.WideShapes Go.ChangeAt Go.RowKit
theorem own:ownKnob Tryz.prog.godebug=none:=by kernel_rfl
def zCP:DataW Unit→List Value
 | .lit (.int k n)=>[.int k n]
 | .agg ds=>cellsDs ds
 | _=>[]
where cellsDs:List (DataW Unit)→List Value
 | []=>[]
 | d::ds=>zCP d++cellsDs ds
def putCells (cs:Array Value):Obj→Obj
 | .cells _ t frozen=>.cells cs t frozen
 | o=>o
noncomputable def zAc (os:Os):World :=
 { World.holding Tryz.prog os ⟨#[],#[],[]⟩ with heap:=((((((World.holding Tryz.prog os ⟨#[],#[],[]⟩).heap.modify 1 (putCells (zCP Rows.laid_unicode_utf8_first).toArray)).modify 2 (putCells (zCP Rows.laid_unicode_utf8_acceptRanges).toArray)).modify 3 (putCells (zCP Rows.laid_internal_strconv_uint64pow10).toArray)).modify 4 (putCells (zCP Rows.laid_math_bits_deBruijn32tab).toArray)).modify 5 (putCells (zCP Rows.laid_math_bits_deBruijn64tab).toArray)) }
def zMA:Value:=.agg #[.int .i64 0,.slice none 0 0,.slice none 0 0,.bool false]
def zSj:Value:=.slice none 0 0
set_option maxRecDepth 100000 in
theorem zPc (os:Os) (as_:Array Value):laidMet Tryz.prog Rows.replMatchesUptoRow.laid ((zAc os).forCall (fun _ _=>0) ⟨#[],as_,[]⟩).memory :=
 laidMet_of_run' 8 (by kernel_rfl) (by kernel_rfl)
set_option maxRecDepth 100000 in
theorem zSz (os:Os) {H:Type} (enc':TypeId × Value→H):∃ places,DataW.whole enc' Tryz.prog ((zAc os).forCall (fun _ _=>0) ⟨#[],#[zMA,zSj,zSj],[]⟩).memory Tryz.f4.params.toList Rows.replMatchesSpec.vars false #[zMA,zSj,zSj].toList 8 =
  some ([.agg [.lit (.int .i64 0),.nil,.nil,.lit (.bool false)],.nil,.nil],[],places) :=
 ⟨[],by kernel_rfl⟩
end Go.Proofs.YtagcckioikbanaaGreatDoor
namespace Go.Proofs.YtagcckioikbanaaGreatDoor
open Go.ChangeShapes Go.WideShapes Go.ChangeAt Go.RowKit Go
theorem z7Q {a b:Bool} (h:a=true) (k:b=true):(a&&b)=true:=by rw [h,k];rfl
set_option maxRecDepth 100000 in
theorem kj1:Rows.replMatchesUptoRow.wf (OpenSpec.ofChange (Rows.OpenSpec.upto Rows.replMatchesSpec).bare)=true:=by kernel_rfl
set_option maxRecDepth 100000 in
theorem kj2:laidOutB Tryz.pinned.checked.prog=true:=by kernel_rfl
set_option maxRecDepth 100000 in
theorem kj3:mapsRowed Tryz.pinned.checked.prog=true:=by kernel_rfl
set_option maxRecDepth 100000 in
theorem kj4:Tryz.f4.params.all (Tryz.pinned.checked.prog.readableRec ·)=true:=by kernel_rfl
set_option maxRecDepth 100000 in
theorem kj5:namedTie Tryz.pinned.checked.prog Rows.replMatchesUptoRow.named (Rows.OpenSpec.upto Rows.replMatchesSpec).bare.vars=true:=by kernel_rfl
set_option maxRecDepth 100000 in
theorem kj6:(Rows.replMatchesUptoRow.stops==[])=true:=by kernel_rfl
set_option maxRecDepth 100000 in
theorem kj7:(Tryz.pinned.checked.prog.stops==[])=true:=by kernel_rfl
set_option maxRecDepth 100000 in
theorem kj8:(Rows.replMatchesUptoRow.knobs==[])=true:=by kernel_rfl
set_option maxRecDepth 100000 in
theorem kj9:(Tryz.pinned.checked.prog.stopKnobs==[])=true:=by kernel_rfl
set_option maxRecDepth 100000 in
theorem kj10:(Rows.replMatchesUptoRow.inPlace==Tryz.pinned.checked.prog.inPlace 4)=true:=by kernel_rfl
set_option maxRecDepth 100000 in
theorem kj11:(Rows.replMatchesUptoRow.unfollowed==Tryz.pinned.checked.prog.unfollowed 4)=true:=by kernel_rfl
set_option maxRecDepth 100000 in
theorem kj12:(Rows.replMatchesUptoRow.recurses==Tryz.pinned.checked.prog.recurses 4)=true:=by kernel_rfl
set_option maxRecDepth 100000 in
theorem kj13:(Rows.replMatchesUptoRow.named==Tryz.pinned.checked.prog.varsNamed 4)=true:=by kernel_rfl
set_option maxRecDepth 100000 in
theorem kj14:(Rows.replMatchesUptoRow.maps==(Tryz.f4.params.toList++(Rows.OpenSpec.upto Rows.replMatchesSpec).bare.plain.varTypes Tryz.pinned.checked.prog).any (Tryz.pinned.checked.prog.mapsRec ·))=true:=by kernel_rfl
set_option maxRecDepth 100000 in
theorem kj15:(Rows.replMatchesUptoRow.ifaces==(Tryz.f4.params.toList++(Rows.OpenSpec.upto Rows.replMatchesSpec).bare.plain.varTypes Tryz.pinned.checked.prog).any (Tryz.pinned.checked.prog.ifacesRec ·))=true:=by kernel_rfl
set_option maxRecDepth 100000 in
theorem kj16:(Rows.replMatchesUptoRow.mapsOut==Tryz.pinned.checked.prog.mapsAmong Tryz.f4.resultTypes.toList)=true:=by kernel_rfl
set_option maxRecDepth 100000 in
theorem kj17:(Rows.replMatchesUptoRow.loops==(Tryz.f4.params.toList++(Rows.OpenSpec.upto Rows.replMatchesSpec).bare.plain.varTypes Tryz.pinned.checked.prog).any (Tryz.pinned.checked.prog.loopsFrom ·))=true:=by kernel_rfl
set_option maxRecDepth 100000 in
theorem kj18:(Rows.replMatchesUptoRow.wideKeys==(Tryz.f4.params.toList++(Rows.OpenSpec.upto Rows.replMatchesSpec).bare.plain.varTypes Tryz.pinned.checked.prog++Tryz.f4.resultTypes.toList).any (Tryz.pinned.checked.prog.wideKeysFrom ·))=true:=by kernel_rfl
set_option maxRecDepth 100000 in
theorem kj19:(Rows.OpenSpec.upto Rows.replMatchesSpec).bare.vars.all (Tryz.pinned.checked.prog.varReadable ·)=true:=by kernel_rfl
set_option maxRecDepth 100000 in
theorem kj20:Tryz.f4.resultTypes.all (fun t=>Tryz.pinned.checked.prog.readableRec t&&decide (t<Tryz.pinned.checked.prog.types.size))=true:=by kernel_rfl
set_option maxRecDepth 100000 in
theorem kj21:(Rows.replMatchesUptoRow.ifacesOut==Tryz.f4.resultTypes.toList.any (Tryz.pinned.checked.prog.ifacesRec ·))=true:=by kernel_rfl
set_option maxRecDepth 100000 in
theorem kj22:(Rows.replMatchesUptoRow.loopsOut==Tryz.f4.resultTypes.toList.any (Tryz.pinned.checked.prog.loopsFrom ·))=true:=by kernel_rfl
set_option maxRecDepth 100000 in
theorem kj23:(Rows.replMatchesUptoRow.plainKeys==Tryz.pinned.checked.prog.plainKeys)=true:=by kernel_rfl
set_option maxRecDepth 100000 in
theorem kj24:Rows.replMatchesUptoRow.shortTexts.isNone=true:=by kernel_rfl
set_option maxRecDepth 100000 in
theorem kj25:Tryz.pinned.checked.prog.stopsHeard=true:=by kernel_rfl
set_option maxRecDepth 100000 in
theorem kj26:Tryz.pinned.checked.prog.mayEnter=true:=by kernel_rfl
set_option maxRecDepth 100000 in
theorem kj27:(Rows.replMatchesUptoRow.lifted==Tryz.pinned.checked.prog.liftsFinal)=true:=by kernel_rfl
set_option maxRecDepth 100000 in
theorem kj28:(Tryz.pinned.checked.prog.make==some Rows.replMatchesUptoRow.make)=true:=by kernel_rfl
set_option maxRecDepth 100000 in
theorem kj29:(Rows.replMatchesUptoRow.kinds==(if Rows.replMatchesUptoRow.domain.isEmpty then [] else Tryz.f4.params.toList.map fun t=>match Tryz.pinned.checked.prog.underlying t with | some (.int k)=>some k | _=>none))=true:=by kernel_rfl
set_option maxRecDepth 100000 in
theorem kj30:(Rows.replMatchesUptoRow.pinned==Rows.replMatchesUptoRow.pinnedBy)=true:=by kernel_rfl
set_option maxRecDepth 100000 in
theorem kj31:(Rows.replMatchesUptoRow.veiled==(Tryz.f4.params.toList++(Rows.OpenSpec.upto Rows.replMatchesSpec).bare.plain.varTypes Tryz.pinned.checked.prog++Tryz.f4.resultTypes.toList).any (Tryz.pinned.checked.prog.veiledRec ·))=true:=by kernel_rfl
set_option maxRecDepth 100000 in
theorem kj32:Rows.replMatchesUptoRow.veiledFits Tryz.pinned.checked.prog Tryz.f4.params.toList (Tryz.f4.params.toList++(Rows.OpenSpec.upto Rows.replMatchesSpec).bare.plain.varTypes Tryz.pinned.checked.prog++Tryz.f4.resultTypes.toList)=true:=by kernel_rfl
set_option maxRecDepth 1000000 in
theorem zSH:joinedFacts Tryz.pinned.checked.prog 4 Tryz.f4 (Rows.OpenSpec.upto Rows.replMatchesSpec).bare Rows.replMatchesUptoRow=true:=by
 unfold joinedFacts
 exact z7Q (z7Q (z7Q (z7Q (z7Q (z7Q (z7Q (z7Q (z7Q (z7Q (z7Q (z7Q (z7Q (z7Q (z7Q (z7Q (z7Q (z7Q (z7Q (z7Q (z7Q (z7Q (z7Q (z7Q (z7Q (z7Q (z7Q (z7Q (z7Q (z7Q (z7Q kj1 kj2) kj3) kj4) kj5) kj6) kj7) kj8) kj9) kj10) kj11) kj12) kj13) kj14) kj15) kj16) kj17) kj18) kj19) kj20) kj21) kj22) kj23) kj24) kj25) kj26) kj27) kj28) kj29) kj30) kj31) kj32
end Go.Proofs.YtagcckioikbanaaGreatDoor
