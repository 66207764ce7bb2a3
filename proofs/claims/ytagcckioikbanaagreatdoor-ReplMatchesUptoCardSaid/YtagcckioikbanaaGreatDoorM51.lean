/- Part 51 of the proof. ReplMatches answers true for every rule, alphabet and word of bulk at most 1048576 (the given bound of the second form), and leaves them as they were. Conditions: the row's own (the five listed tables read as laid). -/
import Derived.Test.YtagcckioikbanaaGreatDoorCards
import Derived.Test.YtagcckioikbanaaGreatDoorTie
import Derived.WalkKit
import Derived.ProofKit
import Derived.OpenShut
import Derived.Carry
import Derived.Deep.DeepHandedRow
import Derived.Lib.LaidTab
import Derived.Test.YtagcckioikbanaaGreatDoorM26
import Derived.Test.YtagcckioikbanaaGreatDoorM34
import Derived.Test.YtagcckioikbanaaGreatDoorM35
import Derived.Test.YtagcckioikbanaaGreatDoorM50
set_option linter.unusedVariables false
set_option linter.unusedSimpArgs false
namespace Go.Proofs.YtagcckioikbanaaGreatDoor
open Go.ChangeShapes Go.WideShapes Go.ChangeAt Go.RowKit Go.Ab
theorem zJZ {r:Ru} (h:ruB r≤1048576):okR r∧∀ p∈r.pairs,okT p.a.l∧okT p.b.l:=by
 unfold ruB at h
 have hp:∀ p∈r.pairs,wdB p.a.l+wdB p.b.l+1≤1048576:=fun p hp=>by have:=zCc (g:=prB) hp;unfold prB at this;unfold prB at h;omega
 have hl:∀ p∈r.places,p.1.w+p.2.w+1≤1048576:=fun p hp=>by have:=zCc (g:=plB) hp;unfold plB at this;unfold plB at h;omega
 have l1:=z7H (g:=prB) (fun x=>by unfold prB;omega) r.pairs
 have l2:=z7H (g:=plB) (fun x=>by unfold plB;omega) r.places
 exact ⟨⟨by omega,by omega,fun p h1=>⟨(zEh (w:=p.a.l) (n:=1048576) (by have:=hp p h1;omega) (by omega)).1,(zEh (w:=p.b.l) (n:=1048576) (by have:=hp p h1;omega) (by omega)).1⟩,
  fun p h1=>⟨by have:=hl p h1;unfold okE;omega,by have:=hl p h1;unfold okE;omega⟩⟩,
  fun p h1=>⟨(zEh (w:=p.a.l) (n:=1048576) (by have:=hp p h1;omega) (by omega)).2.1,(zEh (w:=p.b.l) (n:=1048576) (by have:=hp p h1;omega) (by omega)).2.1⟩⟩
theorem zBp {w:List Bt} (h:wdB w≤1048576):okW w∧okT w:=by
 have ha:=zEh (w:=w) (n:=1048576) h (by omega)
 exact ⟨ha.1,ha.2.1⟩
theorem zGU:laidOutB Tryz.prog=true:=by kernel_rfl
theorem zLL {H:Type} {d d' d'':DataW H} (hk:Rows.uptoSmall H ([d,d',d'']++[])=true):Rows.uptoBulk d+Rows.uptoBulk d'+Rows.uptoBulk d''≤1048576:=by
 have h:Rows.uptoBulkAll ([d,d',d'']++[])≤1048576:=of_decide_eq_true hk
 simp only [lAK,Rows.uptoBulkAll,lDT] at h
 omega
set_option maxRecDepth 1000000 in
theorem zMs (H:Type) (enc':TypeId × Value→H) (W:World) (base:Nat) (args:Array Value) (ds gs:List (DataW H)) (before:List MemPlace)
  (hval:∀ (j:Nat) t v,Tryz.f4.params[j]? =some t→args[j]? =some v→Value.okWide Tryz.prog W .any base t v)
  (hW:DataW.Whole enc' Tryz.prog Tryz.f4.params.toList Rows.replMatchesSpec.vars false W args.toList ds gs before) (hk:Rows.uptoSmall H (ds++gs)=true) :
  Calls Tryz.prog 4 args W fun e W'=>∃ v,e=.returned v∧Rows.replMatchesSpec.post enc' Tryz.prog Tryz.f4 false true false false W args v W':=by
 have hW':=hW
 obtain ⟨p,q,hA0,hV,rfl,hfz,hnd⟩:=hW
 have hA:DataW.TrodAll enc' Tryz.prog W 0 (fun _=>true) true Tryz.f4.params.toList args.toList ds p:=hA0
 rw [Tryz.params4] at hA hval
 obtain ⟨v0,v1,v2,d0,d1,d2,p0,p1,p2,rfl,rfl,rfl,h0,h1,h2⟩:=trodAll_three hA
 obtain ⟨rfl,rfl⟩:=trodVars_none hV
 have hk:=zLL hk
 obtain ⟨f0,hf0⟩:=h0
 obtain ⟨f1,hf1⟩:=h1
 obtain ⟨f2,hf2⟩:=h2
 obtain ⟨r,hr,hb⟩:=zLr (fun _=>rfl) hf0
 obtain ⟨a,ha,hba⟩:=z7q (fun _=>rfl) hf1
 obtain ⟨x,hx,hbx⟩:=z7q (fun _=>rfl) hf2
 simp only at hb hba hbx
 have hs:=zJZ (r:=r) (by omega)
 have hwa:=zBp (w:=a.l) (by omega)
 have hwx:=zBp (w:=x.l) (by omega)
 obtain ⟨cs,rfl⟩:∃ cs,v0=.agg cs:=by
  have:=hval 0 25 v0 (by simp) (by simp)
  unfold Value.okWide at this
  rw [Tryz.underlying25] at this
  obtain ⟨cs,h,_⟩:=this
  exact ⟨cs,h⟩
 obtain ⟨a0,n0,m0,rfl⟩:=okWide_slice Tryz.underlying26 (hval 1 26 v1 (by simp) (by simp))
 obtain ⟨a1,n1,m1,rfl⟩:=okWide_slice Tryz.underlying26 (hval 2 26 v2 (by simp) (by simp))
 have hag:=hr.agg
 rw [Array.toArray_toList] at hag
 have hc:z8N zQS (zQR W) [z6e r,z0X a,z0X x] #[.agg cs,.slice a0 n0 m0,.slice a1 n1 m1]:=by
  refine ⟨rfl,fun i=>?_⟩
  match i with
  | 0=>exact hag
  | 1=>exact ha.rel 0
  | 2=>exact hx.rel 0
  | i+3=>exact .top _
 have hlt:∀ y∈p0++p1++p2,y.block<W.heap.size:=fun y hy=>hW'.lt y (by simpa using hy)
 refine (a3 zJw hs.1 hs.2 (z7S a) (z7S x) hwa.1 hwx.1 hwa.2 hwx.2 [] zQS (zQR W) _ W (zZT W) hc).mono ?_
 rintro e W' ⟨φ',σ',rr,H',st,kp,hrr,rfl,rfl⟩
 obtain ⟨c,rfl,hv⟩:=hrr
 cases hv
 have hbel:Below W.heap.size W W':=⟨st.os,st.tape,st.output,st.size,fun k hk=>st.frame k hk (by rintro ⟨id,b,L,h,_⟩;simp at h)⟩
 have hag:DataW.TrodAll enc' Tryz.prog W' 0 (fun b=>decide (b<W.heap.size)) true Tryz.f4.params.toList [Value.agg cs,.slice a0 n0 m0,.slice a1 n1 m1] [d0,d1,d2] (p0++p1++p2):=by
  rw [Tryz.params4,lA2]
  exact trodAll_mk3 (Below.trod zGU (by kernel_rfl) (of_decide_eq_true (by kernel_rfl)) ⟨f0,hf0⟩ hbel (fun y hy=>hlt y (by simp [hy])))
   (Below.trod zGU (by kernel_rfl) (of_decide_eq_true (by kernel_rfl)) ⟨f1,hf1⟩ hbel (fun y hy=>hlt y (by simp [hy])))
   (Below.trod zGU (by kernel_rfl) (of_decide_eq_true (by kernel_rfl)) ⟨f2,hf2⟩ hbel (fun y hy=>hlt y (by simp [hy])))
 exact ⟨_,rfl,[d0,d1,d2],[],(p0++p1++p2)++[],[],p0++p1++p2,[],hW',trodAll_mk1 (shut_bool Tryz.underlying4 _),hag,rfl,World.keptBut_mono (fun x hx=>⟨hx,Or.inr (lBF.1 hx)⟩) (hbel.frame (·∈(p0++p1++p2)++[])),fun h=>by cases h⟩
set_option maxRecDepth 100000 in
theorem zRV (os:Os) (started:os.Started) (H:Type) (enc':TypeId × Value→H) (F:Stop.Interp) :
  ReturnsInHanded {} Tryz.checked os 4 .any ((Rows.OpenSpec.upto Rows.replMatchesSpec).preRow enc' Tryz.prog Tryz.f4 Rows.replMatchesUptoRow.domain false Rows.replMatchesUptoRow.laid) (((Rows.OpenSpec.upto Rows.replMatchesSpec).at F).post enc' Tryz.prog Tryz.f4 false true false false):=by
 obtain ⟨places,hx⟩:=zSz os enc'
 refine returnsInHanded_of_row (C:=Tryz.checked) (s:=Rows.OpenSpec.upto Rows.replMatchesSpec) own started (by kernel_rfl) Tryz.func4
  (witness_row_at (enc:=enc') (C:=Tryz.checked) false (zAc os) #[zMA,zSj,zSj] rfl (by kernel_rfl) (by kernel_rfl) (by kernel_rfl)
   (OpenSpec.preRow_of_cond 8 hx (by kernel_rfl) (fun k hk=>by cases hk;kernel_rfl) (by kernel_rfl) (zPc os _))) ?_
 intro W base args ds gs before hval hW _ hcond _ _ _ _
 exact zMs H enc' W base args ds gs before hval hW (hcond _ rfl)
set_option maxRecDepth 100000 in
theorem zXw:Rows.ReplMatchesUptoSaid :=
 OpenClaim.holds_of_cond 4 Tryz.f4 rfl rfl rfl rfl rfl rfl rfl ⟨rfl,rfl,rfl,rfl,rfl⟩ rfl rfl rfl rfl rfl (by kernel_rfl) Tryz.func4 zSH
  (of_decide_eq_true (by kernel_rfl)) (by unfold Func.isWrapper;first | (rw [if_pos (by decide +kernel)];kernel_rfl) | (rw [if_neg (by decide +kernel)];exact ⟨rfl,rfl⟩))
  (fun os started H enc' _ F=>by rw [OpenClaim.pre_eq_preRow];exact zRV os started H enc' F)
theorem zTA (f:FuncId) (fn:Func) (hf:Tryz.pinned.checked.prog.funcNamed "ablaut/ablautlaw07.ReplMatches" = some f) (hfn:Tryz.pinned.checked.prog.funcs[f]? =some fn) :
  true=Tryz.pinned.checked.prog.looks []∧∀ (j:Nat) t,fn.params[j]? =some t→Tryz.pinned.checked.prog.wantsStandIn t=false:=by
 obtain rfl:f=4:=Option.some.inj ((show Tryz.prog.funcNamed "ablaut/ablautlaw07.ReplMatches" = some 4 by kernel_rfl).symm.trans hf) |>.symm
 obtain rfl:fn=Tryz.f4:=(Option.some.inj (Tryz.func4.symm.trans hfn)).symm
 refine ⟨by kernel_rfl,fun j t ht=>?_⟩
 rw [Tryz.params4] at ht
 match j,ht with
 | 0,ht =>
  obtain rfl:25=t:=by simpa using ht
  exact (show Tryz.prog.wantsStandIn 25=false by kernel_rfl)
 | 1,ht =>
  obtain rfl:26=t:=by simpa using ht
  exact (show Tryz.prog.wantsStandIn 26=false by kernel_rfl)
 | 2,ht =>
  obtain rfl:26=t:=by simpa using ht
  exact (show Tryz.prog.wantsStandIn 26=false by kernel_rfl)
 | j+3,ht=>simp at ht
theorem replMatches_card:Rows.ReplMatchesUptoCardSaid :=
 Claim7.holds_tied_plain_at .later [] _ _ _ _ zXw (fun _ h=>by cases h) (by kernel_rfl) (fun _ h=>by cases h) replMatchesUpto_row_tie rfl ⟨rfl,rfl⟩ (by kernel_rfl) rfl zTA (by kernel_rfl)
#print axioms replMatches_card
end Go.Proofs.YtagcckioikbanaaGreatDoor
