/- Part 52 of the proof. ReplHolds answers true for every rule, alphabet and pair of words of bulk at most 1048576 (the given bound of the second form), and leaves them as they were. Conditions: the row's own (the five listed tables read as laid). -/
import Derived.Test.YtagcckioikbanaaGreatDoorCards
import Derived.Test.YtagcckioikbanaaGreatDoorTie
import Derived.WalkKit
import Derived.ProofKit
import Derived.OpenShut
import Derived.Carry
import Derived.Deep.DeepHandedRow
import Derived.Lib.LaidTab
import Derived.Test.YtagcckioikbanaaGreatDoorA26
import Derived.Test.YtagcckioikbanaaGreatDoorA34
import Derived.Test.YtagcckioikbanaaGreatDoorA35
import Derived.Test.YtagcckioikbanaaGreatDoorA51
set_option linter.unusedVariables false
set_option linter.unusedSimpArgs false
namespace Go.Ab
open Go Go.ChangeShapes
open Go.Proofs.YtagcckioikbanaaGreatDoor.Rows (uptoBulk uptoBulkAll)
section
variable {H:Type} {enc':TypeId × Value→H} {w:World} {base:Nat} {spare:Nat→Bool} {held:Bool}
theorem zNv:PP.cellsOf 26=1:=by kernel_rfl
theorem zGV (r:Ru) (a b c:Wd):(zGW r (z0X a) (z0X b) (z0X c)).cells=(((z6F r).cells++[z0X a])++[z0X b])++[z0X c]:=rfl
set_option maxRecDepth 100000 in
theorem zQP (hsp:∀ b,spare b=true) {fuel:Nat} {cs:List Value} {x:DataW H × List MemPlace} (h:DataW.trod enc' PP w base spare held fuel 28 cs=some x) :
  ∃ (r:Ru) (a b c:Wd),RelC w (zGW r (z0X a) (z0X b) (z0X c)).cells cs∧ruB r+wdB a.l+wdB b.l+wdB c.l≤uptoBulk x.1:=by
 obtain ⟨xs,n,rfl,rfl,hl,hlen,hf⟩:=DataW.trod_struct Go.Proofs.Tryz.underlying28 h
 rw [show PP.cellsOf 28=7 by kernel_rfl] at hl
 match xs,hlen,cs,hl with
 | [y0,y1,y2,y3],_,[c0,c1,c2,c3,c4,c5,c6],_ =>
  have g0:DataW.trod enc' PP w base spare held n 25 (([c0,c1,c2,c3,c4,c5,c6].drop 0).take (PP.cellsOf 25))=some y0:=hf 0 _ rfl
  rw [zNz] at g0
  have g1:DataW.trod enc' PP w base spare held n 26 (([c0,c1,c2,c3,c4,c5,c6].drop 4).take (PP.cellsOf 26))=some y1:=hf 1 _ rfl
  rw [zNv] at g1
  have g2:DataW.trod enc' PP w base spare held n 26 (([c0,c1,c2,c3,c4,c5,c6].drop 5).take (PP.cellsOf 26))=some y2:=hf 2 _ rfl
  rw [zNv] at g2
  have g3:DataW.trod enc' PP w base spare held n 26 (([c0,c1,c2,c3,c4,c5,c6].drop 6).take (PP.cellsOf 26))=some y3:=hf 3 _ rfl
  rw [zNv] at g3
  have g0:DataW.trod enc' PP w base spare held n 25 [c0,c1,c2,c3]=some y0:=g0
  have g1:DataW.trod enc' PP w base spare held n 26 [c4]=some y1:=g1
  have g2:DataW.trod enc' PP w base spare held n 26 [c5]=some y2:=g2
  have g3:DataW.trod enc' PP w base spare held n 26 [c6]=some y3:=g3
  obtain ⟨r,r0,b0⟩:=zMu hsp g0
  obtain ⟨a,r1,b1⟩:=z6X hsp g1
  obtain ⟨b,r2,b2⟩:=z6X hsp g2
  obtain ⟨c,r3,b3⟩:=z6X hsp g3
  refine ⟨r,a,b,c,?_,?_⟩
  ·rw [zGV]
   exact ((r0.append r1).append r2).append r3
  ·simp only [lBA,lCU,uptoBulk,uptoBulkAll];omega
end
end Go.Ab
namespace Go.Proofs.YtagcckioikbanaaGreatDoor
open Go.ChangeShapes Go.WideShapes Go.ChangeAt Go.RowKit Go.Ab
theorem zKh {r:Ru} (h:ruB r≤1048576):okR r∧∀ p∈r.pairs,okT p.a.l∧okT p.b.l:=by
 unfold ruB at h
 have hp:∀ p∈r.pairs,wdB p.a.l+wdB p.b.l+1≤1048576:=fun p hp=>by have:=zDa (g:=prB) hp;unfold prB at this;unfold prB at h;omega
 have hl:∀ p∈r.places,p.1.w+p.2.w+1≤1048576:=fun p hp=>by have:=zDa (g:=plB) hp;unfold plB at this;unfold plB at h;omega
 have l1:=z7k (g:=prB) (fun x=>by unfold prB;omega) r.pairs
 have l2:=z7k (g:=plB) (fun x=>by unfold plB;omega) r.places
 exact ⟨⟨by omega,by omega,fun p h1=>⟨(zBN (w:=p.a.l) (n:=1048576) (by have:=hp p h1;omega) (by omega)).1,(zBN (w:=p.b.l) (n:=1048576) (by have:=hp p h1;omega) (by omega)).1⟩,
  fun p h1=>⟨by have:=hl p h1;unfold okE;omega,by have:=hl p h1;unfold okE;omega⟩⟩,
  fun p h1=>⟨(zBN (w:=p.a.l) (n:=1048576) (by have:=hp p h1;omega) (by omega)).2.1,(zBN (w:=p.b.l) (n:=1048576) (by have:=hp p h1;omega) (by omega)).2.1⟩⟩
theorem zMQ {r:Ru} {a b c:Wd} (h:ruB r+wdB a.l+wdB b.l+wdB c.l≤1048576):okR r∧(∀ p∈r.pairs,okT p.a.l∧okT p.b.l)∧(okW a.l∧okT a.l)∧(okW b.l∧okT b.l)∧okW c.l∧okT c.l:=by
 have h1:=zKh (r:=r) (by omega)
 have ha:=zBN (w:=a.l) (n:=1048576) (by omega) (by omega)
 have hb:=zBN (w:=b.l) (n:=1048576) (by omega) (by omega)
 have hc:=zBN (w:=c.l) (n:=1048576) (by omega) (by omega)
 exact ⟨h1.1,h1.2,⟨ha.1,ha.2.1⟩,⟨hb.1,hb.2.1⟩,hc.1,hc.2.1⟩
theorem zSV:laidOutB Tryz.prog=true:=by kernel_rfl
theorem zPy {H:Type} {d:DataW H} (hk:Rows.uptoSmall H ([d]++[])=true):Rows.uptoBulk d≤1048576:=by
 have h:Rows.uptoBulkAll ([d]++[])≤1048576:=of_decide_eq_true hk
 simp only [lAJ,Rows.uptoBulkAll,lCJ] at h
 exact h
set_option maxRecDepth 1000000 in
theorem zNt (H:Type) (enc':TypeId × Value→H) (W:World) (base:Nat) (args:Array Value) (ds gs:List (DataW H)) (before:List MemPlace)
  (hval:∀ (j:Nat) t v,Tryz.f3.params[j]? =some t→args[j]? =some v→Value.okWide Tryz.prog W .any base t v)
  (hW:DataW.Whole enc' Tryz.prog Tryz.f3.params.toList Rows.replHoldsSpec.vars false W args.toList ds gs before) (hk:Rows.uptoSmall H (ds++gs)=true) :
  Calls Tryz.prog 3 args W fun e W'=>∃ v,e=.returned v∧Rows.replHoldsSpec.post enc' Tryz.prog Tryz.f3 false true false false W args v W':=by
 have hW':=hW
 obtain ⟨p,q,hA0,hV,rfl,hfz,hnd⟩:=hW
 have hA:DataW.TrodAll enc' Tryz.prog W 0 (fun _=>true) true Tryz.f3.params.toList args.toList ds p:=hA0
 rw [Tryz.params3] at hA hval
 obtain ⟨v0,d0,rfl,rfl,h0⟩:=trodAll_one hA
 obtain ⟨rfl,rfl⟩:=trodVars_none hV
 have hk:=zPy hk
 obtain ⟨fuel,hf⟩:=h0
 obtain ⟨r,a,b,c,hr,hb⟩:=zQP (fun _=>rfl) hf
 have hs:=zMQ (r:=r) (a:=a) (b:=b) (c:=c) (lBK hb hk)
 obtain ⟨cs,rfl⟩:∃ cs,v0=.agg cs:=by
  have:=hval 0 28 v0 (by simp) (by simp)
  unfold Value.okWide at this
  rw [Tryz.underlying28] at this
  obtain ⟨cs,h,_⟩:=this
  exact ⟨cs,h⟩
 have ha:=hr.agg
 rw [Array.toArray_toList] at ha
 have hc:z8x zRR (zRQ W) [zGW r (z0X a) (z0X b) (z0X c)] #[.agg cs]:=by
  refine ⟨rfl,fun i=>?_⟩
  match i with
  | 0=>exact ha
  | i+1=>exact .top _
 have hlt:∀ x∈p,x.block<W.heap.size:=fun x hx=>hW'.lt x (by simpa using hx)
 refine (a4 zLC hs.1 hs.2.1 (z6S a) (z6S b) (z6S c) hs.2.2.1.1 hs.2.2.2.1.1 hs.2.2.2.2.1 hs.2.2.1.2 hs.2.2.2.1.2 hs.2.2.2.2.2 [] zRR (zRQ W) _ W (y0j W) hc).mono ?_
 rintro e W' ⟨φ',σ',rr,H',st,kp,hrr,rfl,rfl⟩
 obtain ⟨c,rfl,hv⟩:=hrr
 cases hv
 have hbel:Below W.heap.size W W':=⟨st.os,st.tape,st.output,st.size,fun k hk=>st.frame k hk (by rintro ⟨id,b,L,h,_⟩;simp at h)⟩
 have hag:DataW.TrodAll enc' Tryz.prog W' 0 (fun b=>decide (b<W.heap.size)) true Tryz.f3.params.toList [Value.agg cs] [d0] p:=by
  rw [Tryz.params3]
  exact trodAll_mk1 (Below.trod zSV (by kernel_rfl) (of_decide_eq_true (by kernel_rfl)) ⟨fuel,hf⟩ hbel hlt)
 exact ⟨_,rfl,[d0],[],p++[],[],p,[],hW',trodAll_mk1 (shut_bool Tryz.underlying4 _),hag,rfl,World.keptBut_mono (fun x hx=>⟨hx,Or.inr (lA5.1 hx)⟩) (hbel.frame (·∈p++[])),fun h=>by cases h⟩
set_option maxRecDepth 100000 in
theorem zSU (os:Os) (started:os.Started) (H:Type) (enc':TypeId × Value→H) (F:Stop.Interp) :
  ReturnsInHanded {} Tryz.checked os 3 .any ((Rows.OpenSpec.upto Rows.replHoldsSpec).preRow enc' Tryz.prog Tryz.f3 Rows.replHoldsUptoRow.domain false Rows.replHoldsUptoRow.laid) (((Rows.OpenSpec.upto Rows.replHoldsSpec).at F).post enc' Tryz.prog Tryz.f3 false true false false):=by
 obtain ⟨places,hx⟩:=zUC os enc'
 refine returnsInHanded_of_row (C:=Tryz.checked) (s:=Rows.OpenSpec.upto Rows.replHoldsSpec) own started (by kernel_rfl) Tryz.func3
  (witness_row_at (enc:=enc') (C:=Tryz.checked) false (zBU os) #[zSS] rfl (by kernel_rfl) (by kernel_rfl) (by kernel_rfl)
   (OpenSpec.preRow_of_cond 8 hx (by kernel_rfl) (fun k hk=>by cases hk;kernel_rfl) (by kernel_rfl) (zQb os _))) ?_
 intro W base args ds gs before hval hW _ hcond _ _ _ _
 exact zNt H enc' W base args ds gs before hval hW (hcond _ rfl)
theorem z7w {a b:Bool} (h:a=true) (k:b=true):(a&&b)=true:=by rw [h,k];rfl
set_option maxRecDepth 100000 in
theorem kj1:Rows.replHoldsUptoRow.wf (OpenSpec.ofChange (Rows.OpenSpec.upto Rows.replHoldsSpec).bare)=true:=by kernel_rfl
set_option maxRecDepth 100000 in
theorem kj2:laidOutB Tryz.pinned.checked.prog=true:=by kernel_rfl
set_option maxRecDepth 100000 in
theorem kj3:mapsRowed Tryz.pinned.checked.prog=true:=by kernel_rfl
set_option maxRecDepth 100000 in
theorem kj4:Tryz.f3.params.all (Tryz.pinned.checked.prog.readableRec ·)=true:=by kernel_rfl
set_option maxRecDepth 100000 in
theorem kj5:namedTie Tryz.pinned.checked.prog Rows.replHoldsUptoRow.named (Rows.OpenSpec.upto Rows.replHoldsSpec).bare.vars=true:=by kernel_rfl
set_option maxRecDepth 100000 in
theorem kj6:(Rows.replHoldsUptoRow.stops==[])=true:=by kernel_rfl
set_option maxRecDepth 100000 in
theorem kj7:(Tryz.pinned.checked.prog.stops==[])=true:=by kernel_rfl
set_option maxRecDepth 100000 in
theorem kj8:(Rows.replHoldsUptoRow.knobs==[])=true:=by kernel_rfl
set_option maxRecDepth 100000 in
theorem kj9:(Tryz.pinned.checked.prog.stopKnobs==[])=true:=by kernel_rfl
set_option maxRecDepth 100000 in
theorem kj10:(Rows.replHoldsUptoRow.inPlace==Tryz.pinned.checked.prog.inPlace 3)=true:=by kernel_rfl
set_option maxRecDepth 100000 in
theorem kj11:(Rows.replHoldsUptoRow.unfollowed==Tryz.pinned.checked.prog.unfollowed 3)=true:=by kernel_rfl
set_option maxRecDepth 100000 in
theorem kj12:(Rows.replHoldsUptoRow.recurses==Tryz.pinned.checked.prog.recurses 3)=true:=by kernel_rfl
set_option maxRecDepth 100000 in
theorem kj13:(Rows.replHoldsUptoRow.named==Tryz.pinned.checked.prog.varsNamed 3)=true:=by kernel_rfl
set_option maxRecDepth 100000 in
theorem kj14:(Rows.replHoldsUptoRow.maps==(Tryz.f3.params.toList++(Rows.OpenSpec.upto Rows.replHoldsSpec).bare.plain.varTypes Tryz.pinned.checked.prog).any (Tryz.pinned.checked.prog.mapsRec ·))=true:=by kernel_rfl
set_option maxRecDepth 100000 in
theorem kj15:(Rows.replHoldsUptoRow.ifaces==(Tryz.f3.params.toList++(Rows.OpenSpec.upto Rows.replHoldsSpec).bare.plain.varTypes Tryz.pinned.checked.prog).any (Tryz.pinned.checked.prog.ifacesRec ·))=true:=by kernel_rfl
set_option maxRecDepth 100000 in
theorem kj16:(Rows.replHoldsUptoRow.mapsOut==Tryz.pinned.checked.prog.mapsAmong Tryz.f3.resultTypes.toList)=true:=by kernel_rfl
set_option maxRecDepth 100000 in
theorem kj17:(Rows.replHoldsUptoRow.loops==(Tryz.f3.params.toList++(Rows.OpenSpec.upto Rows.replHoldsSpec).bare.plain.varTypes Tryz.pinned.checked.prog).any (Tryz.pinned.checked.prog.loopsFrom ·))=true:=by kernel_rfl
set_option maxRecDepth 100000 in
theorem kj18:(Rows.replHoldsUptoRow.wideKeys==(Tryz.f3.params.toList++(Rows.OpenSpec.upto Rows.replHoldsSpec).bare.plain.varTypes Tryz.pinned.checked.prog++Tryz.f3.resultTypes.toList).any (Tryz.pinned.checked.prog.wideKeysFrom ·))=true:=by kernel_rfl
set_option maxRecDepth 100000 in
theorem kj19:(Rows.OpenSpec.upto Rows.replHoldsSpec).bare.vars.all (Tryz.pinned.checked.prog.varReadable ·)=true:=by kernel_rfl
set_option maxRecDepth 100000 in
theorem kj20:Tryz.f3.resultTypes.all (fun t=>Tryz.pinned.checked.prog.readableRec t&&decide (t<Tryz.pinned.checked.prog.types.size))=true:=by kernel_rfl
set_option maxRecDepth 100000 in
theorem kj21:(Rows.replHoldsUptoRow.ifacesOut==Tryz.f3.resultTypes.toList.any (Tryz.pinned.checked.prog.ifacesRec ·))=true:=by kernel_rfl
set_option maxRecDepth 100000 in
theorem kj22:(Rows.replHoldsUptoRow.loopsOut==Tryz.f3.resultTypes.toList.any (Tryz.pinned.checked.prog.loopsFrom ·))=true:=by kernel_rfl
set_option maxRecDepth 100000 in
theorem kj23:(Rows.replHoldsUptoRow.plainKeys==Tryz.pinned.checked.prog.plainKeys)=true:=by kernel_rfl
set_option maxRecDepth 100000 in
theorem kj24:Rows.replHoldsUptoRow.shortTexts.isNone=true:=by kernel_rfl
set_option maxRecDepth 100000 in
theorem kj25:Tryz.pinned.checked.prog.stopsHeard=true:=by kernel_rfl
set_option maxRecDepth 100000 in
theorem kj26:Tryz.pinned.checked.prog.mayEnter=true:=by kernel_rfl
set_option maxRecDepth 100000 in
theorem kj27:(Rows.replHoldsUptoRow.lifted==Tryz.pinned.checked.prog.liftsFinal)=true:=by kernel_rfl
set_option maxRecDepth 100000 in
theorem kj28:(Tryz.pinned.checked.prog.make==some Rows.replHoldsUptoRow.make)=true:=by kernel_rfl
set_option maxRecDepth 100000 in
theorem kj29:(Rows.replHoldsUptoRow.kinds==(if Rows.replHoldsUptoRow.domain.isEmpty then [] else Tryz.f3.params.toList.map fun t=>match Tryz.pinned.checked.prog.underlying t with | some (.int k)=>some k | _=>none))=true:=by kernel_rfl
set_option maxRecDepth 100000 in
theorem kj30:(Rows.replHoldsUptoRow.pinned==Rows.replHoldsUptoRow.pinnedBy)=true:=by kernel_rfl
set_option maxRecDepth 100000 in
theorem kj31:(Rows.replHoldsUptoRow.veiled==(Tryz.f3.params.toList++(Rows.OpenSpec.upto Rows.replHoldsSpec).bare.plain.varTypes Tryz.pinned.checked.prog++Tryz.f3.resultTypes.toList).any (Tryz.pinned.checked.prog.veiledRec ·))=true:=by kernel_rfl
set_option maxRecDepth 100000 in
theorem kj32:Rows.replHoldsUptoRow.veiledFits Tryz.pinned.checked.prog Tryz.f3.params.toList (Tryz.f3.params.toList++(Rows.OpenSpec.upto Rows.replHoldsSpec).bare.plain.varTypes Tryz.pinned.checked.prog++Tryz.f3.resultTypes.toList)=true:=by kernel_rfl
set_option maxRecDepth 1000000 in
theorem zTR:joinedFacts Tryz.pinned.checked.prog 3 Tryz.f3 (Rows.OpenSpec.upto Rows.replHoldsSpec).bare Rows.replHoldsUptoRow=true:=by
 unfold joinedFacts
 exact z7w (z7w (z7w (z7w (z7w (z7w (z7w (z7w (z7w (z7w (z7w (z7w (z7w (z7w (z7w (z7w (z7w (z7w (z7w (z7w (z7w (z7w (z7w (z7w (z7w (z7w (z7w (z7w (z7w (z7w (z7w kj1 kj2) kj3) kj4) kj5) kj6) kj7) kj8) kj9) kj10) kj11) kj12) kj13) kj14) kj15) kj16) kj17) kj18) kj19) kj20) kj21) kj22) kj23) kj24) kj25) kj26) kj27) kj28) kj29) kj30) kj31) kj32
set_option maxRecDepth 100000 in
theorem zZJ:Rows.ReplHoldsUptoSaid :=
 OpenClaim.holds_of_cond 3 Tryz.f3 rfl rfl rfl rfl rfl rfl rfl ⟨rfl,rfl,rfl,rfl,rfl⟩ rfl rfl rfl rfl rfl (by kernel_rfl) Tryz.func3 zTR
  (of_decide_eq_true (by kernel_rfl)) (by unfold Func.isWrapper;first | (rw [if_pos (by decide +kernel)];kernel_rfl) | (rw [if_neg (by decide +kernel)];exact ⟨rfl,rfl⟩))
  (fun os started H enc' _ F=>by rw [OpenClaim.pre_eq_preRow];exact zSU os started H enc' F)
theorem zUE (f:FuncId) (fn:Func) (hf:Tryz.pinned.checked.prog.funcNamed "ablaut/ablautlaw07.ReplHolds" = some f) (hfn:Tryz.pinned.checked.prog.funcs[f]? =some fn) :
  true=Tryz.pinned.checked.prog.looks []∧∀ (j:Nat) t,fn.params[j]? =some t→Tryz.pinned.checked.prog.wantsStandIn t=false:=by
 obtain rfl:f=3:=Option.some.inj ((show Tryz.prog.funcNamed "ablaut/ablautlaw07.ReplHolds" = some 3 by kernel_rfl).symm.trans hf) |>.symm
 obtain rfl:fn=Tryz.f3:=(Option.some.inj (Tryz.func3.symm.trans hfn)).symm
 refine ⟨by kernel_rfl,fun j t ht=>?_⟩
 rw [Tryz.params3] at ht
 obtain rfl:t=28:=by simpa using Array.mem_of_getElem? ht
 exact (show Tryz.prog.wantsStandIn 28=false by kernel_rfl)
theorem replHolds_card:Rows.ReplHoldsUptoCardSaid :=
 Claim7.holds_tied_plain_at .later [] _ _ _ _ zZJ (fun _ h=>by cases h) (by kernel_rfl) (fun _ h=>by cases h) replHoldsUpto_row_tie rfl ⟨rfl,rfl⟩ (by kernel_rfl) rfl zUE (by kernel_rfl)
#print axioms replHolds_card
end Go.Proofs.YtagcckioikbanaaGreatDoor
