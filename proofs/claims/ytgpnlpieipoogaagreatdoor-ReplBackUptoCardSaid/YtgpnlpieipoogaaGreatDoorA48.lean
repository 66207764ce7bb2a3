/- Part 48 of the proof. -/
import Derived.Test.YtgpnlpieipoogaaGreatDoorA42
import Derived.Test.YtgpnlpieipoogaaGreatDoorA45
import Derived.Test.YtgpnlpieipoogaaGreatDoorA47
set_option linter.unusedVariables false
set_option linter.unusedSimpArgs false
namespace Go.Ab
open Go
theorem lvl_14 (op:Int):lvl op<1↔op=14:=by
 unfold lvl
 constructor
 ·intro h
  repeat' split at h
  all_goals first | assumption | omega
 ·rintro rfl;decide
theorem side_text (e:Ex):sideB e=textE e 1:=by
 unfold sideB sideBo textE tx
 simp only
 by_cases h:e.op=14
 ·rw [if_pos ((lvl_14 _).2 h),if_pos (by simpa using h),if_neg (by have:=lvl_ge e.op;omega)]
 ·rw [if_neg (fun k=>h ((lvl_14 _).1 k)),if_neg (by simpa using h),if_neg (by have:=lvl_ge e.op;omega)]
def sdT (e:Ex):Sd:=if (e.op==2) then none else some (textE e 1)
theorem plc_text (p:Pl):plc p=plcT (sdT p.1,sdT p.2):=by
 have h1:=side_text p.1
 have h2:=side_text p.2
 unfold sideB at h1 h2
 unfold plc plcT sideT sideTo sdT tL tR
 rw [h1,h2]
 cases p.1.op==2<;>cases p.2.op==2<;>simp
def sdP (p:Pl):Sd × Sd:=(sdT p.1,sdT p.2)
theorem plTs_text:∀ (p:Pl) (ps:List Pl),plc p++plTs ps=plsT ((p::ps).map sdP)
 | p,[]=>by
  rw [List.map_cons,List.map_nil,plsT_one,plc_text]
  simp [plTs,sdP]
 | p,q::ps=>by
  rw [List.map_cons,List.map_cons,plsT_cons,←List.map_cons,←plTs_text q ps,plc_text]
  simp [plTs,sdP]
theorem plT_text {ps:List Pl} (h:ps≠[]):plT ps=plsT (ps.map sdP):=by
 match ps,h with
 | p::ps,_=>exact plTs_text p ps
theorem norm_two {e:Ex} (he:e.right=true) (h2:(e.op==2)=true):e.norm=lf 2:=by
 cases e with
 | mk op s nl l =>
  have h2:op=2:=by simpa [Ex.op] using h2
  subst h2
  obtain ⟨_,h⟩:=right_shape he
  have:l=[]∧s=[]:=by
   rcases h with ⟨h,_⟩ | ⟨_,h⟩ | ⟨h,_⟩ | ⟨h,_⟩ | ⟨h,_⟩ | ⟨h,_⟩
   ·cases h
   ·exact h
   all_goals omega
  obtain ⟨rfl,rfl⟩:=this
  rfl
theorem sd_ok {e:Ex} (h:vexpr e=0) (hl:e.op≠2→(textE e 1).length≤6000):gdS (sdT e)∧sdE (sdT e)=(e.norm,false):=by
 have hr:=vexpr_right h
 have hv:vexpr e.norm=0:=by rw [vexpr_norm,h]
 unfold sdT
 cases h2:(e.op==2)
 ·have hl:=hl (by simpa using h2)
  simp only [Bool.false_eq_true,if_false]
  refine ⟨gd_text hr hv hl,?_⟩
  show (if (exP (textE e 1)).2 != 0 then (tgr 12,true) else ((exP (textE e 1)).1,false))=_
  rw [exP_text hr hv hl]
  rfl
 ·simp only [if_true]
  exact ⟨trivial,by rw [norm_two hr h2];rfl⟩
abbrev nPl (p:Pl):Pl:=(p.1.norm,p.2.norm)
theorem side_len (e:Ex) (b:Bool) (h:e.op≠2):(textE e 1).length≤(sideT e b).length:=by
 have h1:=side_text e
 unfold sideB at h1
 unfold sideT sideTo
 rw [h1,if_neg (by simpa using h)]
 cases b<;>simp
theorem places_text {ps:List Pl} (h0:ps≠[]) (hv:∀ p∈ps,vexpr p.1=0∧vexpr p.2=0) (hl:(plT ps).length≤6000):readP (plT ps)=some (ps.map nPl,false):=by
 have hp:∀ p∈ps,(gdS (sdT p.1)∧sdE (sdT p.1)=(p.1.norm,false))∧(gdS (sdT p.2)∧sdE (sdT p.2)=(p.2.norm,false)):=by
  intro p hp
  have h1:=(plc_le p ps hp).1
  have h2:(sideT p.1 true).length≤(plc p).length:=by unfold plc;simp only [List.length_append];omega
  have h3:(sideT p.2 false).length≤(plc p).length:=by unfold plc;simp only [List.length_append];omega
  exact ⟨sd_ok (hv p hp).1 fun h=>by have:=side_len p.1 true h;omega,sd_ok (hv p hp).2 fun h=>by have:=side_len p.2 false h;omega⟩
 rw [plT_text h0] at hl ⊢
 rw [readP_pls (by simpa using h0) (fun q hq=>by
  obtain ⟨p,hpm,rfl⟩:=List.mem_map.1 hq
  exact ⟨(hp p hpm).1.1,(hp p hpm).2.1⟩) hl]
 congr 2
 ·rw [List.map_map]
  refine List.map_congr_left fun p hpm=>?_
  show ((sdE (sdT p.1)).1,(sdE (sdT p.2)).1)=_
  rw [(hp p hpm).1.2,(hp p hpm).2.2]
 ·rw [List.any_map,List.any_eq_false]
  intro p hpm
  show ¬((sdE (sdT p.1)).2||(sdE (sdT p.2)).2)=true
  rw [(hp p hpm).1.2,(hp p hpm).2.2]
  simp
theorem spl_free1 {x z:Bt} (h:∀ c∈x,c≠32) (hz:z=[]∨∃ y,z=32::y):spl (x++z)=x::(spl z).tail:=by
 rcases hz with rfl | ⟨y,rfl⟩
 ·rw [List.append_nil,z4D h];rfl
 ·rw [z5A,z4D h]
  have:spl (32::y)=[]::spl y:=by rw [spl];rfl
  rw [this];rfl
theorem spl_bl (y:Bt):spl (32::y)=[]::spl y:=by rw [spl];rfl
theorem z3W {l r:List Bt} {x:Bt} {p:Nat} (h:l.drop p=x::r):l.getD p []=x∧l.drop (p+1)=r:=by
 constructor
 ·have:(l.drop p)[0]? =some x:=by rw [h];rfl
  rw [List.getElem?_drop,Nat.add_zero] at this
  rw [List.getD_eq_getElem?_getD,this];rfl
 ·rw [←List.drop_drop,h];rfl
def nPr (p:Pr):Pr:=⟨⟨true,p.a.l⟩,⟨true,p.b.l⟩⟩
structure GoodP (p:Pr):Prop where
 a:vword p.a.l=0
 b:vword p.b.l=0
 br:brkP p=false
 lg:lgP p=false
theorem arrow_free {k:Int}:∀ c∈arrowS k,c≠32:=by
 unfold arrowS
 split
 ·decide
 ·split
  ·decide
  ·split<;>decide
theorem arrow_k {k:Int} (h0:0≤k) (h3:k≤3):kOf (arrowS k)=k:=by
 have:k=0∨k=1∨k=2∨k=3:=by omega
 rcases this with rfl | rfl | rfl | rfl<;>rfl
theorem great_text {w:List Bt} (h:vword w=0) (hb:brk w=false) (hl:(ptext w).length≤400):greatW (ptext w)=false:=by
 obtain ⟨w1,h1,_,h3⟩:=wordP_text h hb
 unfold greatW
 rw [h1]
 simp only [Option.getD_some,Bool.or_eq_false_iff,decide_eq_false_iff_not]
 omega
theorem GoodP.parts {p:Pr} (h:GoodP p):(∃ w1,wordP (ptext p.a.l)=some w1∧unB (ptext p.a.l) w1=p.a.l)∧(∃ w2,wordP (ptext p.b.l)=some w2∧unB (ptext p.b.l) w2=p.b.l)∧greatW (ptext p.a.l)=false∧greatW (ptext p.b.l)=false∧(∀ c∈ptext p.a.l,c≠32)∧∀ c∈ptext p.b.l,c≠32:=by
 obtain ⟨ha,hb,hbr,hlg⟩:=h
 unfold brkP at hbr
 unfold lgP at hlg
 simp only [Bool.or_eq_false_iff,decide_eq_false_iff_not] at hbr hlg
 obtain ⟨w1,a1,a2,_⟩:=wordP_text ha hbr.1
 obtain ⟨w2,b1,b2,_⟩:=wordP_text hb hbr.2
 exact ⟨⟨w1,a1,a2⟩,⟨w2,b1,b2⟩,great_text ha hbr.1 (by omega),great_text hb hbr.2 (by omega),ptext_free (sym_of ha).2,ptext_free (sym_of hb).2⟩
theorem spl_pr {k:Int} {p:Pr} (h:GoodP p) {Z:Bt} (hz:Z=[]∨∃ y,Z=32::y):spl (prc k p++Z)=ptext p.a.l::arrowS k::ptext p.b.l::(spl Z).tail:=by
 obtain ⟨_,_,_,_,h1,h2⟩:=h.parts
 have e:prc k p++Z=ptext p.a.l++32::(arrowS k++32::(ptext p.b.l++Z)):=by unfold prc;simp
 rw [e,z5A,z4D h1,z5A,z4D arrow_free,spl_free1 h2 hz]
 rfl
theorem ruleF_one {l:List Bt} {k:Int} (h0:0≤k) (h3:k≤3) {p1:Pr} (hg:GoodP p1) {p n:Nat} {kd:Int} {acc:List Pr} {r:List Bt} (hd:l.drop p=ptext p1.a.l::arrowS k::ptext p1.b.l::r) (hk:kd<0∨kd=k) :
  ruleF l (n+1) p kd acc false=(if r=[] then some (⟨k,true,acc++[nPr p1],true,[],false⟩,false) else if r.getD 0 []==[44] then ruleF l n (p+4) k (acc++[nPr p1]) false else
   if r.getD 0 []==[124,124] then match plcP l (p+4) with
    | none=>none
    | some (ps,h)=>some (⟨k,true,acc++[nPr p1],true,ps,false⟩,h)
   else if r.getD 0 []==[47,47] then match plcP l (p+4) with
    | none=>none
    | some (ps,h)=>some (⟨k,true,acc++[nPr p1],true,ps,true⟩,h)
   else none):=by
 obtain ⟨⟨w1,a1,a2⟩,⟨w2,b1,b2⟩,g1,g2,_,_⟩:=hg.parts
 obtain ⟨d1,hd1⟩:=z3W hd
 obtain ⟨d2,hd2⟩:=z3W hd1
 obtain ⟨d3,hd3⟩:=z3W hd2
 have d2:l.getD (p+1) []=arrowS k:=d2
 have d3:l.getD (p+2) []=ptext p1.b.l:=d3
 have hd3:l.drop (p+3)=r:=hd3
 have hlen:l.length=p+(3+r.length):=by
  have:=congrArg List.length hd
  rw [List.length_drop] at this
  simp only [List.length_cons] at this;omega
 have d4:l.getD (p+3) []=r.getD 0 []:=by
  rw [List.getD_eq_getElem?_getD,List.getD_eq_getElem?_getD,←hd3,List.getElem?_drop,Nat.add_zero]
 have hc:(decide (k<0)||(decide (kd≥0)&&k != kd))=false:=by
  have:decide (k<0)=false:=by rw [decide_eq_false_iff_not];omega
  rw [this,Bool.false_or]
  rcases hk with hk | hk
  ·have:decide (kd≥0)=false:=by rw [decide_eq_false_iff_not];omega
   rw [this];rfl
  ·subst hk;simp
 have hcut:(p+3==l.length)=decide (r=[]):=by
  cases r with
  | nil=>simp at hlen ⊢;omega
  | cons x r=>simp at hlen ⊢;omega
 rw [ruleF,d1,d2,d3,d4,a1]
 simp only
 rw [arrow_k h0 h3,hc,b1]
 simp only [Bool.false_eq_true,if_false]
 rw [a2,b2,g1,g2,hcut]
 simp only [Bool.or_false,Bool.false_or,decide_eq_true_eq]
 rfl
def TlT (tl:Bt) (pls:List Pl) (below:Bool):Prop:=(tl=[]∧pls=[]∧below=false)∨∃ y,readP y=some (pls,false)∧((tl=32::124::124::32::y∧below=false)∨(tl=32::47::47::32::y∧below=true))
theorem TlT.bl {tl:Bt} {pls:List Pl} {below:Bool} (h:TlT tl pls below):tl=[]∨∃ y,tl=32::y:=by
 rcases h with ⟨h,_⟩ | ⟨y,_,⟨h,_⟩ | ⟨h,_⟩⟩
 ·exact .inl h
 ·exact .inr ⟨_,h⟩
 ·exact .inr ⟨_,h⟩
theorem plcP_at {l:List Bt} {p:Nat} {y:Bt} (h:l.drop p=spl y):plcP l p=readP y:=by
 unfold plcP
 have:(p==l.length)=false:=by
  simp only [beq_eq_false_iff_ne,ne_eq]
  rintro rfl
  rw [List.drop_length] at h
  exact spl_ne y h.symm
 rw [this,h,join_spl];rfl
theorem ruleF_text {l:List Bt} {k:Int} (h0:0≤k) (h3:k≤3) {tl:Bt} {pls:List Pl} {below:Bool} (ht:TlT tl pls below):∀ (ps:List Pr) (p1:Pr) (n p:Nat) (kd:Int) (acc:List Pr),(∀ q∈p1::ps,GoodP q) →
  l.drop p=spl (prc k p1++(prTs k ps++tl))→ps.length<n→(kd<0∨kd=k)→ruleF l n p kd acc false=some (⟨k,true,acc++(p1::ps).map nPr,true,pls,below⟩,false):=by
 intro ps
 induction ps with
 | nil =>
  intro p1 n p kd acc hg hd hn hk
  obtain ⟨n,rfl⟩:∃ m,n=m+1:=⟨n-1,by omega⟩
  have hgp:=hg p1 (by simp)
  rw [show prTs k []++tl=tl from rfl,spl_pr hgp ht.bl] at hd
  rw [ruleF_one h0 h3 hgp hd hk]
  have hd4:l.drop (p+4)=(spl tl).tail.drop 1:=by
   obtain ⟨_,hd1⟩:=z3W hd
   obtain ⟨_,hd2⟩:=z3W hd1
   obtain ⟨_,hd3⟩:=z3W hd2
   rw [show p+4=p+1+1+1+1 by omega,←List.drop_drop,hd3]
  rcases ht with ⟨rfl,rfl,rfl⟩ | ⟨y,hy,⟨rfl,rfl⟩ | ⟨rfl,rfl⟩⟩
  ·rfl
  ·have e:spl (32::124::124::32::y)=[]::[124,124]::spl y:=by
    rw [spl_bl]
    show []::spl ([124,124]++32::y)=_
    rw [z5A,z4D (by decide)];rfl
   rw [e] at hd4 ⊢
   rw [plcP_at (y:=y) (by rw [hd4];rfl),hy]
   rfl
  ·have e:spl (32::47::47::32::y)=[]::[47,47]::spl y:=by
    rw [spl_bl]
    show []::spl ([47,47]++32::y)=_
    rw [z5A,z4D (by decide)];rfl
   rw [e] at hd4 ⊢
   rw [plcP_at (y:=y) (by rw [hd4];rfl),hy]
   rfl
 | cons p2 ps ih =>
  intro p1 n p kd acc hg hd hn hk
  obtain ⟨n,rfl⟩:∃ m,n=m+1:=⟨n-1,by omega⟩
  have hgp:=hg p1 (by simp)
  have ez:prTs k (p2::ps)++tl=32::(44::32::(prc k p2++(prTs k ps++tl))):=by simp [prTs]
  have e:spl (prTs k (p2::ps)++tl)=[]::[44]::spl (prc k p2++(prTs k ps++tl)):=by
   rw [ez,spl_bl]
   show []::spl ([44]++32::_)=_
   rw [z5A,z4D (by decide)];rfl
  rw [spl_pr hgp (.inr ⟨_,ez⟩),e] at hd
  rw [ruleF_one h0 h3 hgp hd hk]
  have hd4:l.drop (p+4)=spl (prc k p2++(prTs k ps++tl)):=by
   obtain ⟨_,hd1⟩:=z3W hd
   obtain ⟨_,hd2⟩:=z3W hd1
   obtain ⟨_,hd3⟩:=z3W hd2
   rw [show p+4=p+1+1+1+1 by omega,←List.drop_drop,hd3]
   rfl
  have:=ih p2 n (p+4) k (acc++[nPr p1]) (fun q hq=>hg q (List.mem_cons_of_mem _ hq)) hd4 (by simp at hn;omega) (.inr rfl)
  rw [if_neg (by simp)]
  refine (if_pos rfl).trans ?_
  rw [this]
  simp
end Go.Ab
namespace Go.Ab
open Go
def backL (r:Ru):List Pl:=if r.below&&((r.places.length:Int)==0) then [(lf 2,lf 2)] else r.places.map nPl
def backR (r:Ru):Ru:=⟨r.kind,true,r.pairs.map nPr,true,backL r,r.below⟩
theorem text1_ok {r:Ru} (h:(text1 r).2=0):vrule r=0∧r.pairs.any brkP=false∧r.pairs.any lgP=false∧(fullR r).length≤6000∧(text1 r).1=fullR r:=by
 have h':=h
 unfold text1 at h
 split at h
 ·rename_i h1
  simp only [bne_iff_ne,ne_eq] at h1
  exact absurd h h1
 ·rename_i h1
  split at h
  ·cases h
  ·rename_i h2
   split at h
   ·cases h
   ·rename_i h3
    split at h
    ·rename_i h4
     simp only [bne_iff_ne,ne_eq] at h4
     exact absurd h h4
    ·rename_i h4
     split at h
     ·cases h
     ·rename_i h5
      refine ⟨by simpa using h1,by simpa using h2,by rw [←lgP_eq];simpa using h3,?_,?_⟩
      ·simp only [decide_eq_true_eq] at h5;omega
      ·unfold text1
       rw [if_neg h1,if_neg h2,if_neg h3,if_neg h4,if_neg h5]
theorem vrule_ok {r:Ru} (h:vrule r=0):r.pairs.length≤24∧r.places.length≤24∧r.pairs.any longP=false∧perr r.pairs=0∧lerr vexpr r.places=0∧formR r=false∧r.places.any oddPl=false:=by
 unfold vrule at h
 split at h
 ·cases h
 rename_i h1
 split at h
 ·cases h
 rename_i h2
 split at h
 ·rename_i h3
  simp only [bne_iff_ne,ne_eq] at h3
  exact absurd h h3
 rename_i h3
 split at h
 ·rename_i h4
  simp only [bne_iff_ne,ne_eq] at h4
  exact absurd h h4
 rename_i h4
 split at h
 ·cases h
 rename_i h5
 split at h
 ·cases h
 rename_i h6
 simp only [Bool.or_eq_true,decide_eq_true_eq,not_or] at h1
 exact ⟨by omega,by omega,by simpa using h2,by simpa using h3,by simpa using h4,by simpa using h5,by simpa using h6⟩
theorem lerr_nil {l:List Pl} (h:∀ p∈l,vexpr p.1=0∧vexpr p.2=0):lerr vexpr l=0:=by
 induction l with
 | nil=>rfl
 | cons p l ih =>
  have:=h p (by simp)
  rw [lerr,this.1,this.2,ih fun q hq=>h q (List.mem_cons_of_mem _ hq)];rfl
theorem perr_map (l:List Pr):perr (l.map nPr)=perr l:=by
 induction l with
 | nil=>rfl
 | cons p l ih=>simp only [List.map_cons,perr,ih];rfl
theorem twice_map (l:List Pr):twice (l.map nPr)=twice l:=by
 unfold twice
 rw [List.length_map]
 congr 1
 funext i
 unfold twiceAt
 rw [List.getElem?_map]
 cases l[i]? with
 | none=>rfl
 | some p =>
  show ((p.a.l==[])||((l.map nPr).take i).any (sameP (nPr p)))=((p.a.l==[])||(l.take i).any (sameP p))
  rw [←List.map_take,List.any_map]
  rfl
theorem rp_back {r:Ru} (h:(text1 r).2=0):rpP (text1 r).1=(backR r,0):=by
 obtain ⟨hv,hbr,hlg,hlen,he⟩:=text1_ok h
 obtain ⟨v1,v2,v3,v4,v5,v6,v7⟩:=vrule_ok hv
 rw [he]
 have hpl:=lerr_zero v5
 have hpr:=perr_zero v4
 have v6':=v6
 unfold formR at v6'
 simp only [Bool.or_eq_false_iff,decide_eq_false_iff_not,beq_eq_false_iff_ne,ne_eq] at v6'
 obtain ⟨⟨⟨⟨k0,k3⟩,kn⟩,kb⟩,kt⟩:=v6'
 have hgp:∀ q∈r.pairs,GoodP q:=fun q hq=>⟨(hpr q hq).1,(hpr q hq).2,by simpa using List.any_eq_false.1 hbr q hq,by simpa using List.any_eq_false.1 hlg q hq⟩
 have htl:TlT (tailR r) (backL r) r.below:=by
  unfold tailR backL
  cases hz:((r.places.length:Int)==0)
  ·have hne:r.places≠[]:=by
    intro e;rw [e] at hz;cases hz
   have hd:decide ((r.places.length:Int)>0)=true:=by
    simp only [beq_eq_false_iff_ne,ne_eq] at hz
    rw [decide_eq_true_eq];omega
   have hpt:(plT r.places).length≤6000:=by
    have:(tailR r).length≤(fullR r).length:=by unfold fullR;simp
    unfold tailR at this
    rw [hz,hd] at this
    cases hb:r.below
    ·rw [hb] at this;simp at this;omega
    ·rw [hb] at this;simp at this;omega
   have hr:=places_text hne hpl hpt
   rw [hd]
   cases hb:r.below
   ·exact .inr ⟨plT r.places,hr,.inl ⟨rfl,rfl⟩⟩
   ·exact .inr ⟨plT r.places,hr,.inr ⟨rfl,rfl⟩⟩
  ·have he:r.places=[]:=by
    simp only [beq_iff_eq] at hz
    exact List.length_eq_zero_iff.1 (by omega)
   rw [he]
   cases hb:r.below
   ·exact .inl ⟨rfl,rfl,rfl⟩
   ·refine .inr ⟨[95],?_,.inr ⟨rfl,rfl⟩⟩
    have:=readP_pls (l:=[(none,none)]) (by simp) (fun p hp=>by
     simp only [List.mem_singleton] at hp
     subst hp;exact ⟨trivial,trivial⟩) (by decide)
    exact this
 have hrule:ruleP (spl (fullR r))=some (backR r,false):=by
  cases hp:r.pairs with
  | nil=>rw [hp] at kn;exact absurd rfl kn
  | cons p1 ps =>
   have:=ruleF_text (l:=spl (fullR r)) (k:=r.kind) (by omega) (by omega) htl ps p1 ((spl (fullR r)).length+1) 0 (-1) [] (by rw [←hp];exact hgp)
    (by unfold fullR;rw [hp,List.drop_zero];simp only [prT,List.append_assoc]) (by
     have hl:(spl (fullR r)).length=(spl (prc r.kind p1++(prTs r.kind ps++tailR r))).length:=by unfold fullR;rw [hp];simp only [prT,List.append_assoc]
     have hZ:∀ (ps:List Pr),(∀ q∈ps,GoodP q)→ps.length≤(spl (prTs r.kind ps++tailR r)).length:=by
      intro ps
      induction ps with
      | nil=>intro _;exact Nat.zero_le _
      | cons q ps ih =>
       intro hq
       have ez:prTs r.kind (q::ps)++tailR r=32::(44::32::(prc r.kind q++(prTs r.kind ps++tailR r))):=by simp [prTs]
       have hb:(prTs r.kind ps++tailR r)=[]∨∃ y,(prTs r.kind ps++tailR r)=32::y:=by
        cases ps with
        | nil=>exact htl.bl
        | cons x ps=>exact .inr ⟨_,rfl⟩
       have i1:=ih fun x hx=>hq x (List.mem_cons_of_mem _ hx)
       have e1:=spl_pr (k:=r.kind) (hq q (by simp)) hb
       rw [ez,spl_bl]
       have e2:spl (44::32::(prc r.kind q++(prTs r.kind ps++tailR r)))=[44]::spl (prc r.kind q++(prTs r.kind ps++tailR r)):=by
        show spl ([44]++32::_)=_
        rw [z5A,z4D (by decide)];rfl
       rw [e2,e1]
       simp only [List.length_cons,List.length_tail]
       omega
     have hb:(prTs r.kind ps++tailR r)=[]∨∃ y,(prTs r.kind ps++tailR r)=32::y:=by
      cases ps with
      | nil=>exact htl.bl
      | cons x ps=>exact .inr ⟨_,rfl⟩
     have i1:=hZ ps fun x hx=>hgp x (by rw [hp];exact List.mem_cons_of_mem _ hx)
     rw [hl,spl_pr (hgp p1 (by rw [hp];simp)) hb]
     simp only [List.length_cons,List.length_tail]
     omega) (.inl (by decide))
   unfold ruleP backR
   rw [this,hp]
   rfl
 have hvb:vrule (backR r)=0:=by
  have hL:lerr vexpr (backL r)=0∧(backL r).any oddPl=false∧(backL r).length≤24:=by
   unfold backL
   split
   ·refine ⟨by rfl,by rfl,by simp⟩
   ·refine ⟨lerr_nil fun p hp=>?_,?_,by simpa using v2⟩
    ·obtain ⟨q,hq,rfl⟩:=List.mem_map.1 hp
     exact ⟨by rw [vexpr_norm];exact (hpl q hq).1,by rw [vexpr_norm];exact (hpl q hq).2⟩
    ·rw [List.any_map,List.any_eq_false]
     intro p hp
     have:=List.any_eq_false.1 v7 p hp
     unfold oddPl at this
     show ¬ (p.1.norm.odd||p.2.norm.odd)=true
     rw [odd_norm,odd_norm];exact this
  have hform:formR (backR r)=formR r:=by
   unfold formR backR
   simp only [List.length_map,twice_map]
  have hlong:(backR r).pairs.any longP=r.pairs.any longP:=by
   unfold backR
   simp only [List.any_map]
   rfl
  have hp24:decide (((backR r).pairs.length:Int)>24)=false:=by
   rw [decide_eq_false_iff_not];unfold backR;simp only [List.length_map];omega
  have hl24:decide (((backR r).places.length:Int)>24)=false:=by
   rw [decide_eq_false_iff_not]
   have:=hL.2.2
   show ¬ (((backL r).length:Int)>24)
   omega
  have hpe:perr (backR r).pairs=0:=by
   show perr (r.pairs.map nPr)=0
   rw [perr_map,v4]
  unfold vrule
  rw [hp24,hl24,hlong,v3,hpe,show lerr vexpr (backR r).places=0 from hL.1,hform,v6,show (backR r).places.any oddPl=false from hL.2.1]
  rfl
 unfold rpP
 have hd:decide (((fullR r).length:Int)>6000)=false:=by rw [decide_eq_false_iff_not];omega
 rw [hd,hrule]
 simp only [Bool.false_eq_true,if_false]
 rw [hvb];rfl
end Go.Ab
namespace Go.Ab
open Go
set_option maxRecDepth 100000
set_option maxHeartbeats 8000000
theorem ints_same (a:Int):(a != a)=false:=by simp
theorem strs_same (a:Bt):(a != a)=false:=by simp
theorem norms_get {l l':List Ex} (h:norms l=norms l'):l.length=l'.length∧∀ (i:Nat) (x:Ex),l[i]? =some x→∃ y,l'[i]? =some y∧x.norm=y.norm:=by
 rw [norms_map,norms_map] at h
 have hl:l.length=l'.length:=by have:=congrArg List.length h;simpa using this
 refine ⟨hl,fun i x hx=>?_⟩
 obtain ⟨y,hy⟩:=z1E (l:=l') (i:=i) (by have:=(List.getElem?_eq_some_iff.1 hx).1;omega)
 refine ⟨y,hy,?_⟩
 have:=congrArg (fun m=>m[i]?) h
 simp only [List.getElem?_map,hx,hy,Option.map_some] at this
 injection this
theorem c23n:∀ (e e':Ex),okE e→e.norm=e'.norm→∀ H,ACall PP 20 [enc e,enc e'] H (Just H (.bool true))
 | .mk op s nl l,.mk op' s' nl' l',he,hn,H=>by
  simp only [Ex.norm,Ex.mk.injEq] at hn
  obtain ⟨rfl,rfl,_,hn⟩:=hn
  obtain ⟨hlen,hget⟩:=norms_get hn
  have ih:∀ x∈l,∀ y,x.norm=y.norm→∀ H,ACall PP 20 [enc x,enc y] H (Just H (.bool true)):=fun x hx y hy=>c23n x y (by
   have:=ws_mem hx
   unfold okE at he ⊢
   simp only [Ex.w] at he;omega) hy
  have hl:l.length≤1000000000000:=by
   have:=Nat.le_trans (length_sizes l) (sizes_ws l)
   unfold okE at he
   simp only [Ex.w] at he;omega
  rw [z0U,z0U]
  refine ACall.gives (is20.c2 z0W mixed rfl ?_)
  have hs:=sl_lst nl l
  have hs':=sl_lst nl' l'
  have hll:(l.map enc).length=l.length:=List.length_map _
  have hll':(l'.map enc).length=l.length:=by rw [List.length_map,hlen]
  have f1:=ints_same op
  have f2:=strs_same s
  have f3:(((l.map enc).length:Int) != ((l'.map enc).length:Int))=false:=by rw [hll,hll'];simp
  refine z0D ?_
  refine z1B l.length (fun i al H'=>al=[(2,.ptr (H.length+0) 0),(3,.ptr (H.length+1) 0),(5,.int .i64 i)]∧Ext H H'∧H'[H.length+0]? =some (.cells [.int .i64 op,.str s,lst nl l])∧H'[H.length+1]? =some (.cells [.int .i64 op,.str s,lst nl' l'])) ⟨rfl,⟨_,rfl⟩,hp_new,hp_new⟩ ?_
  rintro i _ V hi ⟨rfl,hx,h2,h3⟩
  have e1:decide ((i:Int)<((l.map enc).length:Int))=decide (i<l.length):=by rw [hll];simp only [decide_eq_decide];omega
  refine z0D ?_
  rw [e1]
  cases hc:decide (i<l.length)
  ·refine z0D ?_
   exact z1G rfl (z0M hx (Plain.bool _))
  ·simp only [decide_eq_true_eq] at hc
   obtain ⟨⟨op',s',nm,m⟩,hc⟩:=z1E (l:=l) (i:=i) hc
   obtain ⟨⟨op2,s2,nm2,m2⟩,hc2,hq⟩:=hget i _ hc
   have hu:(l.map enc)[i]? =some (.agg [.int .i64 op',.str s',lst nm m]):=by rw [List.getElem?_map,hc,Option.map_some,z0U]
   have hu2:(l'.map enc)[i]? =some (.agg [.int .i64 op2,.str s2,lst nm2 m2]):=by rw [List.getElem?_map,hc2,Option.map_some,z0U]
   have k:=ih _ (List.mem_of_getElem? hc) _ hq
   rw [z0U,z0U] at k
   refine z0D ?_
   refine z0F rfl (k _) ?_
   refine z0D ?_
   exact ⟨by omega,rfl,hx,h2,h3⟩
termination_by e=>e.w
decreasing_by
 have:=ws_mem hx
 simp only [Ex.w];omega
structure AlikeR (r q:Ru):Prop where
 kind:r.kind=q.kind
 below:r.below=q.below
 pairs:r.pairs.map nPr=q.pairs.map nPr
 places:r.places.map nPl=q.places.map nPl
theorem maps_get {α β:Type} {f:α→β} {l l':List α} (h:l.map f=l'.map f):l.length=l'.length∧∀ (i:Nat) (x:α),l[i]? =some x→∃ y,l'[i]? =some y∧f x=f y:=by
 have hl:l.length=l'.length:=by have:=congrArg List.length h;simpa using this
 refine ⟨hl,fun i x hx=>?_⟩
 obtain ⟨y,hy⟩:=z1E (l:=l') (i:=i) (by have:=(List.getElem?_eq_some_iff.1 hx).1;omega)
 refine ⟨y,hy,?_⟩
 have:=congrArg (fun m=>m[i]?) h
 simp only [List.getElem?_map,hx,hy,Option.map_some] at this
 injection this
theorem c8n (r q:Ru) (hr:okR r) (ha:AlikeR r q) (H:Heap):ACall PP 8 [encR r,encR q] H (Just H (.bool true)):=by
 obtain ⟨kind,pn,prs,ln,pls,below⟩:=r
 obtain ⟨kind',pn',prs',ln',pls',below'⟩:=q
 obtain ⟨hk,hbl,hP,hL⟩:=ha
 simp only at hk hbl hP hL
 subst hk hbl
 obtain ⟨hPl,hPg⟩:=maps_get hP
 obtain ⟨hLl,hLg⟩:=maps_get hL
 obtain ⟨hnp,hnl,hps,hls⟩:=hr
 simp only at hnp hnl hps hls
 have hsp:=sl_Ps pn prs
 have hsl:=sl_Ls ln pls
 have hsp':=sl_Ps pn' prs'
 have hsl':=sl_Ls ln' pls'
 have hlp:(prs.map encP).length=prs.length:=List.length_map _
 have hll:(pls.map encPl).length=pls.length:=List.length_map _
 have hlp':(prs'.map encP).length=prs.length:=by rw [List.length_map,hPl]
 have hll':(pls'.map encPl).length=pls.length:=by rw [List.length_map,hLl]
 have f1:=ints_same kind
 have f2:(below != below)=false:=by simp
 have f3:(((prs.map encP).length:Int) != ((prs'.map encP).length:Int))=false:=by rw [hlp,hlp'];simp
 have f4:(((pls.map encPl).length:Int) != ((pls'.map encPl).length:Int))=false:=by rw [hll,hll'];simp
 refine ACall.gives (is8.c2 z0W mixed rfl ?_)
 unfold encR
 simp only
 refine z0D ?_
 refine z2Z (v:=.bool false) (by cases below<;>rfl) ?_
 refine z0D ?_
 refine wi_cutB (fun al' H'=>∃ tl,al'=(2,.ptr (H.length+0) 0)::(3,.ptr (H.length+1) 0)::tl∧Ext H H'∧H'[H.length+0]? =some (.cells [.int .i64 kind,encPs pn prs,encLs ln pls,.bool below])∧H'[H.length+1]? =some (.cells [.int .i64 kind,encPs pn' prs',encLs ln' pls',.bool below])) ?_ ?_
 ·refine z1B prs.length (fun i al H'=>al=[(2,.ptr (H.length+0) 0),(3,.ptr (H.length+1) 0),(5,.int .i64 i)]∧Ext H H'∧H'[H.length+0]? =some (.cells [.int .i64 kind,encPs pn prs,encLs ln pls,.bool below])∧H'[H.length+1]? =some (.cells [.int .i64 kind,encPs pn' prs',encLs ln' pls',.bool below])) ⟨rfl,⟨_,rfl⟩,hp_new,hp_new⟩ ?_
  rintro i _ V hi ⟨rfl,hx,h2,h3⟩
  have e1:decide ((i:Int)<((prs.map encP).length:Int))=decide (i<prs.length):=by rw [hlp];simp only [decide_eq_decide];omega
  refine z0D ?_
  rw [e1]
  cases hc:decide (i<prs.length)
  ·refine z0D ?_
   exact ⟨_,rfl,hx,h2,h3⟩
  ·simp only [decide_eq_true_eq] at hc
   obtain ⟨c,hc⟩:=z1E (l:=prs) (i:=i) hc
   obtain ⟨d,hd,hcd⟩:=hPg i c hc
   have ea:c.a.l=d.a.l:=congrArg (fun p:Pr=>p.a.l) (a₁:=nPr c) (a₂:=nPr d) hcd
   have eb:c.b.l=d.b.l:=congrArg (fun p:Pr=>p.b.l) (a₁:=nPr c) (a₂:=nPr d) hcd
   have hok:=hps c (List.mem_of_getElem? hc)
   have hu:(prs.map encP)[i]? =some (.agg [encW c.a,encW c.b]):=getmap (f:=encP) hc
   have hu2:(prs'.map encP)[i]? =some (.agg [encW d.a,encW d.b]):=getmap (f:=encP) hd
   have k1:=c17 (sl_W c.a) (sl_W d.a) hok.1.1
   have k2:=c17 (sl_W c.b) (sl_W d.b) hok.2.1
   rw [ea,beq_self_eq_true] at k1
   rw [eb,beq_self_eq_true] at k2
   refine z0D ?_
   refine z0F rfl (k1 _) ?_
   refine z0D ?_
   refine z0F rfl (k2 _) ?_
   refine z0D ?_
   exact ⟨by omega,rfl,hx,h2,h3⟩
 rintro _ V ⟨tl,rfl,hx,h2,h3⟩
 refine z0D ?_
 refine z1B pls.length (fun i al H'=>al=[(2,.ptr (H.length+0) 0),(3,.ptr (H.length+1) 0),(6,.int .i64 i)]∧Ext H H'∧H'[H.length+0]? =some (.cells [.int .i64 kind,encPs pn prs,encLs ln pls,.bool below])∧H'[H.length+1]? =some (.cells [.int .i64 kind,encPs pn' prs',encLs ln' pls',.bool below])) ⟨rfl,hx,h2,h3⟩ ?_
 clear hx h2 h3 V
 rintro i _ V hi ⟨rfl,hx,h2,h3⟩
 have e1:decide ((i:Int)<((pls.map encPl).length:Int))=decide (i<pls.length):=by rw [hll];simp only [decide_eq_decide];omega
 refine z0D ?_
 rw [e1]
 cases hc:decide (i<pls.length)
 ·refine z0D ?_
  exact z1G rfl (z0M hx (Plain.bool _))
 ·simp only [decide_eq_true_eq] at hc
  obtain ⟨⟨⟨a,b,c,d⟩,⟨a',b',c',d'⟩⟩,hc⟩:=z1E (l:=pls) (i:=i) hc
  obtain ⟨⟨⟨a2,b2,c2,d2⟩,⟨a3,b3,c3,d3⟩⟩,hd,hcd⟩:=hLg i _ hc
  have n1:=congrArg Prod.fst hcd
  have n2:=congrArg Prod.snd hcd
  have hok:=hls _ (List.mem_of_getElem? hc)
  have hu:(pls.map encPl)[i]? =some (.agg [.int .i64 a,.str b,lst c d,.int .i64 a',.str b',lst c' d']):=getmap (f:=encPl) hc
  have hu2:(pls'.map encPl)[i]? =some (.agg [.int .i64 a2,.str b2,lst c2 d2,.int .i64 a3,.str b3,lst c3 d3]):=getmap (f:=encPl) hd
  have k1:=c23n _ _ hok.1 n1
  have k2:=c23n _ _ hok.2 n2
  simp only at k1 k2
  rw [z0U,z0U] at k1 k2
  refine z0D ?_
  refine z0F rfl (k1 _) ?_
  refine z0D ?_
  refine z0F rfl (k2 _) ?_
  refine z0D ?_
  exact ⟨by omega,rfl,hx,h2,h3⟩
end Go.Ab
