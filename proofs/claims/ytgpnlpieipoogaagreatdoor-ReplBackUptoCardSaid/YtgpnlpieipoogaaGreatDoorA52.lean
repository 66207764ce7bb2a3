/- Part 52 of the proof. ReplBack answers true for every rule of bulk at most 1048576 (the given bound of the second form), and leaves it as it was. Conditions: the row's own. -/
import Derived.Test.YtgpnlpieipoogaaGreatDoorCards
import Derived.Test.YtgpnlpieipoogaaGreatDoorTie
import Derived.WalkKit
import Derived.ProofKit
import Derived.OpenShut
import Derived.Carry
import Derived.Deep.DeepHandedRow
import Derived.Lib.LaidTab
import Derived.Test.YtgpnlpieipoogaaGreatDoorA25
import Derived.Test.YtgpnlpieipoogaaGreatDoorA32
import Derived.Test.YtgpnlpieipoogaaGreatDoorA33
import Derived.Test.YtgpnlpieipoogaaGreatDoorA37
import Derived.Test.YtgpnlpieipoogaaGreatDoorA42
import Derived.Test.YtgpnlpieipoogaaGreatDoorA48
import Derived.Test.YtgpnlpieipoogaaGreatDoorA51
set_option linter.unusedVariables false
set_option linter.unusedSimpArgs false
namespace Go.Ab
open Go
set_option maxRecDepth 100000
set_option maxHeartbeats 8000000
def foreR (r:Ru):Ru:=if r.below&&((r.places.length:Int)==0) then ⟨r.kind,r.pn,r.pairs,false,[(lf 2,lf 2)],r.below⟩ else r
theorem foreR_ok {r:Ru} (hr:okR r):okR (foreR r):=by
 unfold foreR
 split
 ·exact ⟨hr.np,by simp,hr.ps,fun p hp=>by
   simp only [List.mem_singleton] at hp
   subst hp;exact ⟨by decide,by decide⟩⟩
 ·exact hr
theorem fore_back (r:Ru):AlikeR (foreR r) (backR r):=by
 unfold foreR backR backL
 cases h:(r.below&&((r.places.length:Int)==0))
 ·refine ⟨rfl,rfl,?_,?_⟩
  ·show r.pairs.map nPr=(r.pairs.map nPr).map nPr
   rw [List.map_map];rfl
  ·show r.places.map nPl=(r.places.map nPl).map nPl
   rw [List.map_map]
   refine List.map_congr_left fun p _=>?_
   show (p.1.norm,p.2.norm)=(p.1.norm.norm,p.2.norm.norm)
   rw [norm_norm,norm_norm]
 ·refine ⟨rfl,rfl,?_,rfl⟩
  show r.pairs.map nPr=(r.pairs.map nPr).map nPr
  rw [List.map_map];rfl
theorem st_slice1 {P:Program} {H:Heap} {al:AL} {K:KL} {Qp:AL→AV→Heap→Prop} {os:List IOper} {d len sz:Nat} {zs:List AV} {ps:List (Nat × Nat)} {as_:List Arg} {out:List AV}
  (hf:fillA (if len*sz=0 then [] else copies len zs) ps (evsL al as_)=some out) (h:VV P os ((d,.sl H.length 0 len sz)::al) (H++[.cells out]) K Qp) :
  VV P (⟨some d,.i (.m (.buildSlice len sz zs ps)),as_,none,none⟩::os) al H K Qp:=by
 have:=z3J (P:=P) (H:=H) (G:=[]) (al:=al) (K:=K) (Qp:=Qp) (os:=os) (d:=d) (n:=0) (G':=[.cells out]) hf rfl rfl h
 rwa [List.append_nil] at this
abbrev Zb6:List AV:=[.int .i64 2,.str [],.nilslice,.int .i64 2,.str [],.nilslice]
theorem c3b (r:Ru) (hr:okR r) (ht:∀ p∈r.pairs,okT p.a.l∧okT p.b.l) (H:Heap):ACall PP 3 [encR r] H (Just H (.bool true)):=by
 have hf:ACall PP 3 [encR r] H (fun r H'=>∃ v,r=.ret v∧v=.bool true∧H'=H):=by
  refine ACall.forgetE (fun v h=>by subst h;exact Plain.bool _) ?_
  have k4:=c10 r hr ht
  have k6:=c13 r hr
  have k7:=c6 (text1 r).1
  have k8:=c8n (foreR r) (backR r) (foreR_ok hr) (fore_back r)
  have hbk:(text1 r).2=0→rpP (text1 r).1=(backR r,0):=rp_back
  unfold RpS at k7
  have hsc:([.int .i64 (backR r).kind,encPs (backR r).pn (backR r).pairs,encLs (backR r).ln (backR r).places,.bool (backR r).below]:List AV).all AV.scalar=true:=by
   have h1:AV.scalar (encPs (backR r).pn (backR r).pairs)=true:=by unfold encPs;split<;>rfl
   simp only [List.all_cons,h1,scalar_Ls,List.all_nil];rfl
  have hqE:encR (backR r)=.agg [.int .i64 (backR r).kind,encPs (backR r).pn (backR r).pairs,encLs (backR r).ln (backR r).places,.bool (backR r).below]:=rfl
  have hsl:=sl_Ls r.ln r.places
  have hll:(r.places.map encPl).length=r.places.length:=List.length_map _
  unfold foreR at k8
  generalize (text1 r).1=s at *
  generalize (text1 r).2=e at *
  generalize overR r=ov at *
  obtain ⟨kind,pn,prs,ln,pls,below⟩:=r
  generalize hq:backR ⟨kind,pn,prs,ln,pls,below⟩=q at *
  have hrE:encR ⟨kind,pn,prs,ln,pls,below⟩=.agg [.int .i64 kind,encPs pn prs,encLs ln pls,.bool below]:=rfl
  rw [hrE] at k4 k6 ⊢
  clear hq
  simp only at hsl hll k8
  generalize h1:encPs pn prs=a1 at *
  generalize h2:encLs ln pls=a2 at *
  refine is3.c1 z0W mixed rfl ?_
  refine z0D ?_
  refine z0F rfl (k4 _) ?_
  refine z0D ?_
  cases ov
  rotate_left
  ·refine z0D ?_
   refine z0F rfl (known_call _) ?_
   refine z0D ?_
   exact z1G rfl ⟨_,rfl,rfl,_,rfl⟩
  refine z0D ?_
  refine z0F rfl (k6 _) ?_
  refine z0D ?_
  cases he:(e != 0)
  rotate_left
  ·refine z0D ?_
   refine z0F rfl (known_call _) ?_
   refine z0D ?_
   exact z1G rfl ⟨_,rfl,rfl,_,rfl⟩
  have e0:e=0:=by simpa using he
  refine z0D ?_
  refine z1W rfl (k7 _) ?_ ?_
  rotate_left
  ·rintro v H' ⟨v',hv,_⟩;cases hv
  rintro v H' ⟨v',hv,⟨n,rfl,hn,hn2⟩,rfl⟩
  cases hv
  rw [hbk e0]
  have g1:(H++[Blk.cells [.int .i64 kind,a1,a2,.bool below]])[H.length+0]? =some (.cells [.int .i64 kind,a1,a2,.bool below]):=hp_new
  have hE:∃ G,(H++[Blk.cells [.int .i64 kind,a1,a2,.bool below]]:Heap)=H++G:=⟨_,rfl⟩
  have hl1:(H++[Blk.cells [.int .i64 kind,a1,a2,.bool below]]:Heap).length=H.length+1:=by simp
  show VV _ _ _ (H++[Blk.cells [.int .i64 kind,a1,a2,.bool below]]) _ _
  generalize (H++[Blk.cells [.int .i64 kind,a1,a2,.bool below]]:Heap)=X at *
  simp only [hqE]
  generalize encPs q.pn q.pairs=b1 at *
  generalize encLs q.ln q.places=b2 at *
  generalize q.kind=qk at *
  generalize q.below=qb at *
  rw [hqE] at k8
  refine z0D ?_
  refine z1H rfl rfl rfl rfl rfl hsc ?_
  have g2:=z0H (G:=[Blk.cells [.int .i64 qk,b1,b2,.bool qb]]) g1
  have g3:(X++[Blk.cells [.int .i64 qk,b1,b2,.bool qb]])[X.length]? =some (.cells [.int .i64 qk,b1,b2,.bool qb]):=z0Q
  have hE2:∃ G,(X++[Blk.cells [.int .i64 qk,b1,b2,.bool qb]]:Heap)=H++G:=by
   obtain ⟨G,rfl⟩:=hE
   exact ⟨G++[Blk.cells [.int .i64 qk,b1,b2,.bool qb]],by simp⟩
  have hl2:(X++[Blk.cells [.int .i64 qk,b1,b2,.bool qb]]:Heap).length=H.length+2:=by simp [hl1]
  generalize (X++[Blk.cells [.int .i64 qk,b1,b2,.bool qb]]:Heap)=Y at *
  have hend:∀ al,fpostL ic3.rs (fun r H'=>∃ v,r=.ret v∧v=.bool true∧∃ G,H'=H++G) .ret ((2,.bool true)::al) Y:=fun al=>z1G rfl ⟨_,rfl,rfl,hE2⟩
  cases below
  ·simp only [Bool.false_and,Bool.false_eq_true,if_false] at k8
   rw [hrE] at k8
   refine z0D ?_
   refine z0F rfl (k8 _) ?_
   refine z0D ?_
   refine z0F rfl (known_call _) ?_
   refine z0D ?_
   exact hend _
  ·cases hz:((pls.length:Int)==0)
   ·rw [hz] at k8
    simp only [Bool.and_false,Bool.false_eq_true,if_false] at k8
    rw [hrE] at k8
    have hz':((((pls.map encPl).length:Nat):Int)==0)=false:=by rw [hll];exact hz
    refine z0D ?_
    refine z0F rfl (k8 _) ?_
    refine z0D ?_
    refine z0F rfl (known_call _) ?_
    refine z0D ?_
    exact hend _
   ·rw [hz] at k8
    simp only [Bool.and_self,if_true] at k8
    have hz':((((pls.map encPl).length:Nat):Int)==0)=true:=by rw [hll];exact hz
    have hrE':encR ⟨kind,pn,prs,false,[(lf 2,lf 2)],true⟩=.agg [.int .i64 kind,a1,.list 6 [encPl (lf 2,lf 2)],.bool true]:=by
     unfold encR;simp only [h1];rfl
    rw [hrE'] at k8
    refine z0D ?_
    refine z0R (out:=[.int .i64 2,.str [],.nilslice]) rfl rfl ?_
    refine z0R (out:=[.int .i64 2,.str [],.nilslice]) rfl rfl ?_
    refine z0R (out:=Zb6) rfl rfl ?_
    refine st_slice1 (out:=Zb6) rfl ?_
    refine z1M rfl ?_
    have y1:=z0H (G:=[Blk.cells Zb6]) g2
    have y2:=z0H (G:=[Blk.cells Zb6]) g3
    have y3:(Y++[Blk.cells Zb6])[Y.length]? =some (.cells Zb6):=z0Q
    have hE3:∃ G,(Y++[Blk.cells Zb6]:Heap).set (H.length+0) (.cells [.int .i64 kind,a1,.sl Y.length 0 1 6,.bool true])=H++G:=by
     obtain ⟨G,rfl⟩:=hE2
     exact ⟨_,by rw [List.append_assoc,set_new]⟩
    have hsz:(AV.scalar a1&&true)=true:=by
     subst h1;unfold encPs;split<;>rfl
    refine z0X (.sl Y.length 0 1 6) rfl rfl y1 rfl rfl rfl ?_
    have z1:((Y++[Blk.cells Zb6]:Heap).set (H.length+0) (.cells [.int .i64 kind,a1,.sl Y.length 0 1 6,.bool true]))[H.length+0]? =some (.cells [.int .i64 kind,a1,.sl Y.length 0 1 6,.bool true]):=by
     rw [List.getElem?_set_self (by simp [hl2];omega)]
    have z2:((Y++[Blk.cells Zb6]:Heap).set (H.length+0) (.cells [.int .i64 kind,a1,.sl Y.length 0 1 6,.bool true]))[X.length]? =some (.cells [.int .i64 qk,b1,b2,.bool qb]):=by
     rw [List.getElem?_set_ne (by omega)];exact y2
    have z3:((Y++[Blk.cells Zb6]:Heap).set (H.length+0) (.cells [.int .i64 kind,a1,.sl Y.length 0 1 6,.bool true]))[Y.length]? =some (.cells Zb6):=by
     rw [List.getElem?_set_ne (by omega)];exact y3
    show VV _ _ _ ((Y++[Blk.cells Zb6]:Heap).set (H.length+0) (.cells [.int .i64 kind,a1,.sl Y.length 0 1 6,.bool true])) _ _
    generalize ((Y++[Blk.cells Zb6]:Heap).set (H.length+0) (.cells [.int .i64 kind,a1,.sl Y.length 0 1 6,.bool true]))=Z at *
    have hY:H.length≤Y.length:=by omega
    generalize Y.length=yl at *
    have hend:∀ al,fpostL ic3.rs (fun r H'=>∃ v,r=.ret v∧v=.bool true∧∃ G,H'=H++G) .ret ((2,.bool true)::al) (Z.set yl .dead):=fun al=>z1G rfl ⟨_,rfl,rfl,by
     obtain ⟨G,rfl⟩:=hE3
     exact ⟨G.set (yl-H.length) .dead,by rw [List.set_append_right _ _ hY]⟩⟩
    refine z0D ?_
    refine z1W (R:=Just (Z.set yl .dead) (.bool true)) rfl (ACall.sealArgs (id:=yl) (cs:=Zb6) (args':=[.agg [.int .i64 kind,a1,.list 6 [encPl (lf 2,lf 2)],.bool true],.agg [.int .i64 qk,b1,b2,.bool qb]]) z3 rfl (fun i=>?_) (k8 _)) ?_ ?_
    ·match i with
     | 0=>exact .agg _ _ rfl fun j=>match j with
      | 0=>.refl _
      | 1=>.refl _
      | 2=>.sl 0 1 6 [encPl (lf 2,lf 2)] rfl (fun x hx=>by
        simp only [List.mem_singleton] at hx
        subst hx;rfl) rfl (by decide)
      | 3=>.refl _
      | j+4=>.refl _
     | 1=>exact .refl _
     | i+2=>exact .refl _
    rotate_left
    ·rintro v H' ⟨hv,_⟩;cases hv
    rintro v H' ⟨hv,rfl⟩
    cases hv
    refine z0D ?_
    refine z0F rfl (known_call _) ?_
    refine z0D ?_
    exact hend _
 exact hf.mono fun r H' h=>by
  obtain ⟨v,h1,h2,h3⟩:=h
  exact ⟨by rw [h1,h2],h3⟩
end Go.Ab
namespace Go.Proofs.YtgpnlpieipoogaaGreatDoor
open Go.ChangeShapes Go.WideShapes Go.ChangeAt Go.RowKit Go.Ab
theorem small_back {r:Ru} (h:ruB r≤1048576):okR r∧∀ p∈r.pairs,okT p.a.l∧okT p.b.l:=by
 unfold ruB at h
 have hp:∀ p∈r.pairs,wdB p.a.l+wdB p.b.l+1≤1048576:=fun p hp=>by have:=sumG_mem (g:=prB) hp;unfold prB at this;unfold prB at h;omega
 have hl:∀ p∈r.places,p.1.w+p.2.w+1≤1048576:=fun p hp=>by have:=sumG_mem (g:=plB) hp;unfold plB at this;unfold plB at h;omega
 have l1:=length_sumG (g:=prB) (fun x=>by unfold prB;omega) r.pairs
 have l2:=length_sumG (g:=plB) (fun x=>by unfold plB;omega) r.places
 exact ⟨⟨by omega,by omega,fun p h1=>⟨(okW_of (w:=p.a.l) (n:=1048576) (by have:=hp p h1;omega) (by omega)).1,(okW_of (w:=p.b.l) (n:=1048576) (by have:=hp p h1;omega) (by omega)).1⟩,
  fun p h1=>⟨by have:=hl p h1;unfold okE;omega,by have:=hl p h1;unfold okE;omega⟩⟩,
  fun p h1=>⟨(okW_of (w:=p.a.l) (n:=1048576) (by have:=hp p h1;omega) (by omega)).2.1,(okW_of (w:=p.b.l) (n:=1048576) (by have:=hp p h1;omega) (by omega)).2.1⟩⟩
theorem laidOut:laidOutB Tryz.prog=true:=by kernel_rfl
theorem small_of {H:Type} {d:DataW H} (hk:Rows.uptoSmall H ([d]++[])=true):Rows.uptoBulk d≤1048576:=by
 have h:Rows.uptoBulkAll ([d]++[])≤1048576:=of_decide_eq_true hk
 simp only [List.append_nil,Rows.uptoBulkAll,Nat.add_zero] at h
 exact h
set_option maxRecDepth 1000000 in
theorem contract3 (H:Type) (enc':TypeId × Value→H) (W:World) (base:Nat) (args:Array Value) (ds gs:List (DataW H)) (before:List MemPlace)
  (hval:∀ (j:Nat) t v,Tryz.f3.params[j]? =some t→args[j]? =some v→Value.okWide Tryz.prog W .any base t v)
  (hW:DataW.Whole enc' Tryz.prog Tryz.f3.params.toList Rows.replBackSpec.vars false W args.toList ds gs before) (hk:Rows.uptoSmall H (ds++gs)=true) :
  Calls Tryz.prog 3 args W fun e W'=>∃ v,e=.returned v∧Rows.replBackSpec.post enc' Tryz.prog Tryz.f3 false true false false W args v W':=by
 have hW':=hW
 obtain ⟨p,q,hA0,hV,rfl,hfz,hnd⟩:=hW
 have hA:DataW.TrodAll enc' Tryz.prog W 0 (fun _=>true) true Tryz.f3.params.toList args.toList ds p:=hA0
 rw [Tryz.params3] at hA hval
 obtain ⟨v0,d0,rfl,rfl,h0⟩:=trodAll_one hA
 obtain ⟨rfl,rfl⟩:=trodVars_none hV
 have hk:=small_of hk
 obtain ⟨fuel,hf⟩:=h0
 obtain ⟨r,hr,hb⟩:=open_rule (fun _=>rfl) hf
 have hs:=small_back (r:=r) (Nat.le_trans hb hk)
 obtain ⟨cs,rfl⟩:∃ cs,v0=.agg cs:=by
  have:=hval 0 25 v0 (by simp) (by simp)
  unfold Value.okWide at this
  rw [Tryz.underlying25] at this
  obtain ⟨cs,h,_⟩:=this
  exact ⟨cs,h⟩
 have ha:=hr.agg
 rw [Array.toArray_toList] at ha
 have hc:CRel phi0 (sigW W) [encR r] #[.agg cs]:=by
  refine ⟨rfl,fun i=>?_⟩
  match i with
  | 0=>exact ha
  | i+1=>exact .top _
 have hlt:∀ x∈p,x.block<W.heap.size:=fun x hx=>hW'.lt x (by simpa using hx)
 refine (c3b r hs.1 hs.2 [] phi0 (sigW W) _ W (hrel0 W) hc).mono ?_
 rintro e W' ⟨φ',σ',rr,H',st,kp,hrr,rfl,rfl⟩
 obtain ⟨c,rfl,hv⟩:=hrr
 cases hv
 have hbel:Below W.heap.size W W':=⟨st.os,st.tape,st.output,st.size,fun k hk=>st.frame k hk (by rintro ⟨id,b,L,h,_⟩;simp at h)⟩
 have hag:DataW.TrodAll enc' Tryz.prog W' 0 (fun b=>decide (b<W.heap.size)) true Tryz.f3.params.toList [Value.agg cs] [d0] p:=by
  rw [Tryz.params3]
  exact trodAll_mk1 (Below.trod laidOut (by kernel_rfl) (of_decide_eq_true (by kernel_rfl)) ⟨fuel,hf⟩ hbel hlt)
 exact ⟨_,rfl,[d0],[],p++[],[],p,[],hW',trodAll_mk1 (shut_bool Tryz.underlying4 _),hag,rfl,World.keptBut_mono (fun x hx=>⟨hx,Or.inr (List.mem_append.1 hx)⟩) (hbel.frame (·∈p++[])),fun h=>by cases h⟩
set_option maxRecDepth 100000 in
theorem lifted3 (os:Os) (started:os.Started) (H:Type) (enc':TypeId × Value→H) (F:Stop.Interp) :
  ReturnsInHanded {} Tryz.checked os 3 .any ((Rows.OpenSpec.upto Rows.replBackSpec).preRow enc' Tryz.prog Tryz.f3 Rows.replBackUptoRow.domain false Rows.replBackUptoRow.laid) (((Rows.OpenSpec.upto Rows.replBackSpec).at F).post enc' Tryz.prog Tryz.f3 false true false false):=by
 obtain ⟨places,hx⟩:=reads3 os enc'
 refine returnsInHanded_of_row (C:=Tryz.checked) (s:=Rows.OpenSpec.upto Rows.replBackSpec) own started (by kernel_rfl) Tryz.func3
  (witness_row_at (enc:=enc') (C:=Tryz.checked) false (laidWorld os) #[noRule] rfl (by kernel_rfl) (by kernel_rfl) (by kernel_rfl)
   (OpenSpec.preRow_of_cond 8 hx (by kernel_rfl) (fun k hk=>by cases hk;kernel_rfl) (by kernel_rfl) (laid_met os _))) ?_
 intro W base args ds gs before hval hW _ hcond _ _ _ _
 exact contract3 H enc' W base args ds gs before hval hW (hcond _ rfl)
set_option maxRecDepth 100000 in
theorem said3:Rows.ReplBackUptoSaid :=
 OpenClaim.holds_of_cond 3 Tryz.f3 rfl rfl rfl rfl rfl rfl rfl ⟨rfl,rfl,rfl,rfl,rfl⟩ rfl rfl rfl rfl rfl (by kernel_rfl) Tryz.func3 (by kernel_rfl)
  (of_decide_eq_true (by kernel_rfl)) (by unfold Func.isWrapper;first | (rw [if_pos (by decide +kernel)];kernel_rfl) | (rw [if_neg (by decide +kernel)];exact ⟨rfl,rfl⟩))
  (fun os started H enc' _ F=>by rw [OpenClaim.pre_eq_preRow];exact lifted3 os started H enc' F)
theorem plain3 (f:FuncId) (fn:Func) (hf:Tryz.pinned.checked.prog.funcNamed "ablaut/ablautlaw07.ReplBack" = some f) (hfn:Tryz.pinned.checked.prog.funcs[f]? =some fn) :
  true=Tryz.pinned.checked.prog.looks []∧∀ (j:Nat) t,fn.params[j]? =some t→Tryz.pinned.checked.prog.wantsStandIn t=false:=by
 obtain rfl:f=3:=Option.some.inj ((show Tryz.prog.funcNamed "ablaut/ablautlaw07.ReplBack" = some 3 by kernel_rfl).symm.trans hf) |>.symm
 obtain rfl:fn=Tryz.f3:=(Option.some.inj (Tryz.func3.symm.trans hfn)).symm
 refine ⟨by kernel_rfl,fun j t ht=>?_⟩
 rw [Tryz.params3] at ht
 obtain rfl:t=25:=by simpa using Array.mem_of_getElem? ht
 exact (show Tryz.prog.wantsStandIn 25=false by kernel_rfl)
theorem replBack_card:Rows.ReplBackUptoCardSaid :=
 Claim7.holds_tied_plain_at .later [] _ _ _ _ said3 (fun _ h=>by cases h) (by kernel_rfl) (fun _ h=>by cases h) replBackUpto_row_tie rfl ⟨rfl,rfl⟩ (by kernel_rfl) rfl plain3 (by kernel_rfl)
#print axioms replBack_card
end Go.Proofs.YtgpnlpieipoogaaGreatDoor
