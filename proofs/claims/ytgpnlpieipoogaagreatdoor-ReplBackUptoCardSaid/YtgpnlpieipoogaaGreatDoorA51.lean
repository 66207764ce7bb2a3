/- Part 51 of the proof. -/
import Derived.Test.YtgpnlpieipoogaaGreatDoorA47
import Derived.Test.YtgpnlpieipoogaaGreatDoorA50
set_option linter.unusedVariables false
set_option linter.unusedSimpArgs false
namespace Go.Ab
open Go
set_option maxRecDepth 100000
set_option maxHeartbeats 16000000
theorem plain_st (s:Bt) (e:Int):Plain (.tuple [.str s,.int .i64 e]):=⟨2,rfl⟩
theorem wtext_nil {w:List Bt} (h:(wtext w==[])=true):w=[]:=by
 rw [beq_iff_eq] at h
 cases w with
 | nil=>rfl
 | cons s w =>
  exfalso
  simp only [wtext,List.append_eq_nil_iff] at h
  have h1:=h.1
  unfold wSym at h1
  split at h1
  ·rename_i h2;subst h1;simp at h2
  ·simp at h1
theorem c13 (r:Ru) (hr:okR r) (H:Heap):ACall PP 6 [encR r] H (Just H (.tuple [.str (text1 r).1,.int .i64 (text1 r).2])):=by
 have k15:=fun H=>c15 r hr H
 have k32:=fun h H=>c32 r hr h H
 have hg:vrule r=0→Good r:=good
 have hgl:vrule r=0→_:=good_ls
 have htm:moreE r=0→_:=tail_more (r:=r)
 have hml:=moreL_len r
 have eF:fullR r=prT r.kind r.pairs++tailR r:=rfl
 have hpl:vrule r=0→(fullR r).length≤2000000:=by
  intro h
  have g:=good h
  have h1:=prT_le (k:=r.kind) g.ps 24
  rw [List.take_of_length_le g.np] at h1
  have h2:=plT_le _ (good_ls h).1 g.nl
  rw [fullR,List.length_append]
  unfold tailR
  split
  ·simp;omega
  ·split
   ·simp;omega
   ·split
    ·simp;omega
    ·simp;omega
 unfold text1
 generalize vrule r=ve at *
 generalize moreE r=me at *
 generalize moreL r=ml at *
 generalize tailR r=tr at *
 generalize fullR r=fu at *
 obtain ⟨kind,pn,pairs,ln,places,below⟩:=r
 simp only at eF hg hgl
 have hsp:=sl_Ps pn pairs
 have hlp:(pairs.map encP).length=pairs.length:=List.length_map _
 obtain ⟨hnp,hnl,hps,hls⟩:=hr
 simp only at hnp hnl hps hls
 unfold encR at *
 refine ACall.gives (is6.c1 z0W mixed rfl ?_)
 refine z0G ?_
 refine z0F rfl (k15 _) ?_
 refine z0G ?_
 refine z0T _ rfl ?_ ?_<;>intro h1
 ·simp only [h1,if_true]
  refine z0G ?_
  exact fr (hp:=plain_st _ _)
 simp only [h1,Bool.false_eq_true,if_false]
 have hv0:ve=0:=by simpa using h1
 obtain ⟨gps,gls,gnp,gnl,gk0,gk3,gne⟩:=hg hv0
 obtain ⟨_,gpn⟩:=hgl hv0
 have hpl:=hpl hv0
 have k32:=k32 hv0
 clear hg hgl
 simp only at gps gnp gk0 gk3 gne gpn
 refine z0G ?_
 refine z1B pairs.length (fun i al H'=>al=[(1,.ptr (H.length+0) 0),(24,encPs pn pairs),(25,.int .i64 (pairs.map encP).length),(26,.int .i64 i)]∧Ext (H++[.cells [.int .i64 kind,encPs pn pairs,encLs ln places,.bool below]]) H'∧(pairs.take i).any brkP=false) ⟨rfl,.refl _,by simp⟩ ?_
 rintro i _ H1 hi ⟨rfl,hx,hb⟩
 have hB:H1[H.length+0]? =some (.cells [.int .i64 kind,encPs pn pairs,encLs ln places,.bool below]):=hx.get hp_new
 refine wi_nil ?_
 refine z0G ?_
 refine z0T _ rfl ?_ ?_<;>intro hc
 ·simp only [decide_eq_true_eq] at hc
  obtain ⟨c,hc⟩:=z1E (l:=pairs) (i:=i) (by omega)
  have hu:(pairs.map encP)[i]? =some (.agg [encW c.a,encW c.b]):=getmap (f:=encP) hc
  have vas:=sl_W c.a
  have vbs:=sl_W c.b
  have hany:(brk c.a.l||brk c.b.l)=true→pairs.any brkP=true:=fun h=>z3U (p:=brkP) hc h
  rw [z2H hc,hb]
  rw [show brkP c=(brk c.a.l||brk c.b.l) from rfl]
  have hfill:=fill2W (a:=c.a) (b:=c.b)
  have hall:=all_W (a:=c.a) (b:=c.b)
  generalize encW c.a=va at *
  generalize encW c.b=vb at *
  generalize c.a.l=wa at *
  generalize c.b.l=wb at *
  refine z0G ?_
  refine z1J (n:=0) (ws:=[va,vb]) rfl rfl rfl rfl rfl hall rfl ?_
  refine z0G ?_
  refine z3J (out:=[va,vb]) hfill rfl rfl ?_
  refine z0G ?_
  refine z5H (fun al H'=>al=[(1,.ptr (H.length+0) 0),(24,encPs pn pairs),(25,.int .i64 (pairs.map encP).length),(26,.int .i64 i),(34,.sl (H1.length+1) 0 2 1),(35,.int .i64 (2:Nat)),(36,.int .i64 (0:Nat))]∧H'=H1++[.cells [va,vb],.cells [va,vb]])
   (fun al H'=>al=[(1,.ptr (H.length+0) 0),(24,encPs pn pairs),(25,.int .i64 (pairs.map encP).length),(26,.int .i64 i),(34,.sl (H1.length+1) 0 2 1),(35,.int .i64 (2:Nat)),(36,.int .i64 (1:Nat))]∧H'=H1++[.cells [va,vb],.cells [va,vb]]∧brk wa=false)
   (fun al H'=>al=[(1,.ptr (H.length+0) 0),(24,encPs pn pairs),(25,.int .i64 (pairs.map encP).length),(26,.int .i64 i),(34,.sl (H1.length+1) 0 2 1),(35,.int .i64 (2:Nat)),(36,.int .i64 (2:Nat))]∧H'=H1++[.cells [va,vb],.cells [va,vb]]∧brk wa=false∧brk wb=false)
   ⟨rfl,rfl⟩ ?_ ?_ ?_
  ·rintro _ _ ⟨rfl,rfl⟩
   refine z0G ?_
   refine z3Y [(1,.ptr (H.length+0) 0),(24,encPs pn pairs),(25,.int .i64 (pairs.map encP).length),(26,.int .i64 i),(34,.sl (H1.length+1) 0 2 1),(35,.int .i64 (2:Nat)),(36,.int .i64 (0:Nat)),(54,.bool (brk wa))] (H1++[.cells [va,vb],.cells [va,vb]]) ?_ ?_
   ·clear hany
    have ew:(((wa.map AV.str).length:Int)==2)=((wa.length:Int)==2):=by rw [List.length_map]
    refine z0G ?_
    rw [ew]
    cases h2:((wa.length:Int)==2)
    ·have eb:brk wa=false:=by
      unfold brk
      cases h3:wa==[[91],[93]] with
      | false=>rfl
      | true=>rw [beq_iff_eq] at h3;subst h3;simp at h2
     rw [eb]
     refine z0G ?_
     exact z0Z rfl rfl
    ·match wa,h2,vas with
     | [a,b],_,hsv =>
      have hu1:([a,b].map AV.str)[0]? =some (.str a):=rfl
      have hu2:([a,b].map AV.str)[1]? =some (.str b):=rfl
      have e2:brk [a,b]=(a==[91]&&b==[93]):=by simp [brk]
      rw [e2]
      refine z0G ?_
      refine z0G ?_
      cases ha:(a==[91])
      ·refine z0G ?_
       exact z0Z rfl rfl
      ·refine z0G ?_
       refine z0G ?_
       cases hbb:(b==[93])
       ·refine z0G ?_
        exact z0Z rfl rfl
       ·refine z0G ?_
        exact z0Z rfl rfl
     | [],h,_=>simp at h
     | [_],h,_=>simp at h
     | _::_::_::_,h,_=>simp at h;omega
   cases hba:brk wa
   ·refine z0G ?_
    exact ⟨rfl,rfl,rfl⟩
   ·rw [hany (by rw [hba];rfl)]
    refine z0G ?_
    exact z1G rfl (z0M (hx.app _).base (plain_st _ _))
  ·rintro _ _ ⟨rfl,rfl,hba⟩
   refine z0G ?_
   refine z3Y [(1,.ptr (H.length+0) 0),(24,encPs pn pairs),(25,.int .i64 (pairs.map encP).length),(26,.int .i64 i),(34,.sl (H1.length+1) 0 2 1),(35,.int .i64 (2:Nat)),(36,.int .i64 (1:Nat)),(54,.bool (brk wb))] (H1++[.cells [va,vb],.cells [va,vb]]) ?_ ?_
   ·clear hany
    have ew:(((wb.map AV.str).length:Int)==2)=((wb.length:Int)==2):=by rw [List.length_map]
    refine z0G ?_
    rw [ew]
    cases h2:((wb.length:Int)==2)
    ·have eb:brk wb=false:=by
      unfold brk
      cases h3:wb==[[91],[93]] with
      | false=>rfl
      | true=>rw [beq_iff_eq] at h3;subst h3;simp at h2
     rw [eb]
     refine z0G ?_
     exact z0Z rfl rfl
    ·match wb,h2,vbs with
     | [a,b],_,hsv =>
      have hu1:([a,b].map AV.str)[0]? =some (.str a):=rfl
      have hu2:([a,b].map AV.str)[1]? =some (.str b):=rfl
      have e2:brk [a,b]=(a==[91]&&b==[93]):=by simp [brk]
      rw [e2]
      refine z0G ?_
      refine z0G ?_
      cases ha:(a==[91])
      ·refine z0G ?_
       exact z0Z rfl rfl
      ·refine z0G ?_
       refine z0G ?_
       cases hbb:(b==[93])
       ·refine z0G ?_
        exact z0Z rfl rfl
       ·refine z0G ?_
        exact z0Z rfl rfl
     | [],h,_=>simp at h
     | [_],h,_=>simp at h
     | _::_::_::_,h,_=>simp at h;omega
   cases hbb:brk wb
   ·refine z0G ?_
    exact ⟨rfl,rfl,hba,rfl⟩
   ·rw [hany (by rw [hbb];simp)]
    refine z0G ?_
    exact z1G rfl (z0M (hx.app _).base (plain_st _ _))
  ·rintro _ _ ⟨rfl,rfl,hba,hbb⟩
   refine z0G ?_
   exact ⟨by omega,rfl,hx.app _,by rw [hba,hbb];rfl⟩
 simp only [decide_eq_false_iff_not] at hc
 have:i=pairs.length:=by omega
 subst this
 rw [List.take_length] at hb
 rw [hb]
 clear hc hi
 simp only [Bool.false_eq_true,if_false]
 clear hb
 refine z0G ?_
 refine z1B pairs.length (fun i al H'=>∃ ov,al=[(1,.ptr (H.length+0) 0),(9,ov),(58,encPs pn pairs),(59,.int .i64 (pairs.map encP).length),(60,.int .i64 i)]∧OwnS (H++[.cells [.int .i64 kind,encPs pn pairs,encLs ln places,.bool below]]) H' ov (prw kind (pairs.take i))∧(pairs.take i).any lgP1=false) ⟨_,rfl,.nil (hx.app _),by simp⟩ ?_
 clear hx hB H1
 rintro i _ H1 hi ⟨ov,rfl,hO,hb⟩
 have hB:H1[H.length+0]? =some (.cells [.int .i64 kind,encPs pn pairs,encLs ln places,.bool below]):=hO.1.get hp_new
 refine wi_nil ?_
 refine z0G ?_
 refine z0T _ rfl ?_ ?_<;>intro hc
 ·simp only [decide_eq_true_eq] at hc
  obtain ⟨c,hc⟩:=z1E (l:=pairs) (i:=i) (by omega)
  have hm:=List.mem_of_getElem? hc
  have hu:(pairs.map encP)[i]? =some (.agg [encW c.a,encW c.b]):=getmap (f:=encP) hc
  have gc:=gps c hm
  have k30a:=c30 (sl_W c.a) gc.1
  have k30b:=c30 (sl_W c.b) gc.2
  have hany:lgP1 c=true→pairs.any lgP1=true:=fun h=>z3U hc h
  have eL:lgP1 c=(decide (((wtext c.a.l).length:Int)>400)||decide (((wtext c.b.l).length:Int)>400)):=rfl
  have pa:ptext c.a.l=wtext c.a.l:=by
   have:=gne c hm
   unfold ptext
   rw [if_neg]
   simpa using this
  have pb1:(wtext c.b.l==[])=true→ptext c.b.l=[91,93]:=fun h=>by rw [wtext_nil h];rfl
  have pb0:(wtext c.b.l==[])=false→ptext c.b.l=wtext c.b.l:=fun h=>by
   unfold ptext
   rw [if_neg]
   intro h2
   have:c.b.l=[]:=by simpa using h2
   rw [this] at h;cases h
  have e1:prp kind c=[wtext c.a.l,arrowS kind,ptext c.b.l]:=by unfold prp;rw [pa]
  rw [prw_one hc,z2H hc,hb,e1,Bool.false_or]
  have hwl:(prw kind (pairs.take i)).length≤96:=by
   have:=prw_len kind (pairs.take i)
   rw [List.length_take] at this;omega
  have hall:=all_W (a:=c.a) (b:=c.b)
  clear pa e1
  generalize prw kind (pairs.take i)=o0 at *
  generalize lgP1 c=lc at *
  generalize encW c.a=va at *
  generalize encW c.b=vb at *
  generalize wtext c.a.l=ta at *
  generalize wtext c.b.l=tb at *
  generalize ptext c.b.l=pb at *
  refine z0G ?_
  refine z1J (n:=0) (ws:=[va,vb]) rfl rfl rfl rfl rfl hall rfl ?_
  refine z0G ?_
  refine z0F rfl (k30a _) ?_
  unfold tx30
  cases hda:decide ((ta.length:Int)>400)
  rotate_left
  ·simp only [if_true]
   rw [hany (by rw [eL,hda];rfl)]
   simp only [if_true]
   refine z0G ?_
   exact z1G rfl (z0M (hO.app _).1.base (plain_st _ _))
  simp only [Bool.false_eq_true,if_false]
  refine z0G ?_
  refine z0F rfl (k30b _) ?_
  unfold tx30
  cases hdb:decide ((tb.length:Int)>400)
  rotate_left
  ·simp only [if_true]
   rw [hany (by rw [eL,hdb];simp)]
   simp only [if_true]
   refine z0G ?_
   exact z1G rfl (z0M (hO.app _).1.base (plain_st _ _))
  simp only [Bool.false_eq_true,if_false]
  rw [hda,hdb] at eL
  refine z0G ?_
  refine wi_cut (fun al' H'=>∃ tl,al'=(1,.ptr (H.length+0) 0)::(9,ov)::(10,.int .i64 i)::(12,.str ta)::(14,.str pb)::(58,encPs pn pairs)::(59,.int .i64 (pairs.map encP).length)::(60,.int .i64 i)::tl∧OwnS (H++[.cells [.int .i64 kind,encPs pn pairs,encLs ln places,.bool below]]) H' ov o0) ?_ ?_
  ·cases hz:(tb==[])
   ·rw [pb0 hz]
    refine z0G ?_
    exact ⟨_,rfl,hO.app _⟩
   ·rw [pb1 hz]
    refine z0G ?_
    exact ⟨_,rfl,hO.app _⟩
  clear hO hB
  rintro _ H2 ⟨tl,rfl,hO⟩
  refine z0G ?_
  refine wi_cut (fun al' H'=>∃ ov tl,al'=(1,.ptr (H.length+0) 0)::(9,ov)::(12,.str ta)::(14,.str pb)::(58,encPs pn pairs)::(59,.int .i64 (pairs.map encP).length)::(60,.int .i64 i)::tl∧OwnS (H++[.cells [.int .i64 kind,encPs pn pairs,encLs ln places,.bool below]]) H' ov (o0++(if decide ((i:Int)>0) then [[44]] else []))) ?_ ?_
  ·refine z0T _ rfl ?_ ?_<;>intro hi0
   ·rw [if_pos hi0]
    refine z0G ?_
    refine z0V (out:=[.str [44]]) rfl ?_
    refine z3S (l:=o0) (ys:=[[44]]) rfl (hO.app _) (srcOf_last rfl) (by simp;omega) ?_
    intro v' H' ho
    refine z0G ?_
    exact ⟨_,_,rfl,ho⟩
   ·rw [hi0,if_neg (by simp),List.append_nil]
    refine z0G ?_
    exact ⟨_,_,rfl,hO⟩
  clear hO
  rintro _ H3 ⟨ov2,tl2,rfl,hO⟩
  have hB:H3[H.length+0]? =some (.cells [.int .i64 kind,encPs pn pairs,encLs ln places,.bool below]):=hO.1.get hp_new
  have hwl2:(o0++(if decide ((i:Int)>0) then [[44]] else [])).length≤97:=by
   rw [List.length_append];split<;>simp<;>omega
  generalize o0++(if decide ((i:Int)>0) then [[44]] else [])=o1 at *
  refine z0G ?_
  refine z0F rfl (c31 kind _) ?_
  refine z0G ?_
  refine z0V (out:=[.str ta,.str (arrowS kind),.str pb]) rfl ?_
  refine z3S (l:=o1) (ys:=[ta,arrowS kind,pb]) rfl (hO.app _) (srcOf_last rfl) (by simp;omega) ?_
  intro v' H' ho
  refine z0G ?_
  exact ⟨by omega,_,rfl,ho,by rw [eL];rfl⟩
 simp only [decide_eq_false_iff_not] at hc
 have:i=pairs.length:=by omega
 subst this
 rw [List.take_length] at hO hb
 rw [hb]
 clear hc hi
 simp only [Bool.false_eq_true,if_false]
 have hB:H1[H.length+0]? =some (.cells [.int .i64 kind,encPs pn pairs,encLs ln places,.bool below]):=hO.1.get hp_new
 have hwl:=prw_len kind pairs
 refine z0G ?_
 refine z0F rfl (k32 _) ?_
 refine z0G ?_
 refine z0T _ rfl ?_ ?_<;>intro h2
 ·simp only [h2,if_true]
  refine z0G ?_
  exact z1G rfl (z0M (hO.app _).1.base (plain_st _ _))
 simp only [h2,Bool.false_eq_true,if_false]
 have hj:Lib.join (prw kind pairs++ml) [32]=fu:=by rw [join_prw _ _ gpn,htm (by simpa using h2),←eF]
 refine z0G ?_
 refine z3S (l:=prw kind pairs) (ys:=ml) rfl (hO.app _) (srcOf_W ⟨true,ml⟩ _) (by omega) ?_
 intro v' H' ho
 refine z0F rfl (z3N ho.src (by rw [List.length_append];omega) (by rw [hj];omega)) ?_
 rw [hj]
 refine z0G ?_
 refine z0T _ rfl ?_ ?_<;>intro h3
 ·simp only [h3,if_true]
  refine z0G ?_
  exact z1G rfl (z0M ho.1.base (plain_st _ _))
 ·simp only [h3,Bool.false_eq_true,if_false]
  refine z0G ?_
  exact z1G rfl (z0M ho.1.base (plain_st _ _))
end Go.Ab
