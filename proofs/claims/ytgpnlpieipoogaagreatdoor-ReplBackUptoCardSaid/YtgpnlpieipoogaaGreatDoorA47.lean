/- Part 47 of the proof. -/
import Derived.Test.YtgpnlpieipoogaaGreatDoorA46
set_option linter.unusedVariables false
set_option linter.unusedSimpArgs false
namespace Go.Ab
open Go
set_option maxRecDepth 100000
set_option maxHeartbeats 8000000
def tE (t:Bt):Bt × Int:=if decide ((t.length:Int)>6000) then ([],3) else (t,0)
theorem plain_se (s:Bt) (e:Int):Plain (.tuple [.str s,.int .i64 e]):=⟨2,rfl⟩
theorem c134 (e:Ex) (he:okE e) (h0:vexpr e=0) (H:Heap):ACall PP 79 [enc e] H (Just H (.tuple [.str (tE (textE e 0)).1,.int .i64 (tE (textE e 0)).2])):=by
 have hz:e.size≤40:=by
  unfold vexpr at h0
  split at h0
  ·cases h0
  ·rename_i h;simp only [Bool.or_eq_true,decide_eq_true_eq,not_or] at h;omega
 have k39:=fun H=>c39 e he H
 have k186:=fun H=>c186 e he hz (vexpr_right h0) 0 H
 rw [h0] at k39
 unfold tE
 generalize textE e 0=t at *
 obtain ⟨op,s,nl,l⟩:=e
 rw [z0U] at k39 k186 ⊢
 refine ACall.gives (is79.c1 z0W mixed rfl ?_)
 refine z0G ?_
 refine z0F rfl (k39 _) ?_
 refine z0G ?_
 refine z0F rfl (k186 _) ?_
 refine z0G ?_
 refine z0T _ rfl ?_ ?_<;>intro h1
 ·simp only [h1,if_true]
  refine z0G ?_
  exact fr (hp:=plain_se _ _)
 ·simp only [h1,Bool.false_eq_true,if_false]
  refine z0G ?_
  exact fr (hp:=plain_se _ _)
def w1 (e:Ex):List Bt:=if (e.op==2) then [] else [sideB e]
def plp (p:Pl):List Bt:=w1 p.1++[[95]]++w1 p.2
def plws:List Pl→List Bt
 | []=>[]
 | p::ps=>[[59]]++plp p++plws ps
def plw:List Pl→List Bt
 | []=>[]
 | p::ps=>plp p++plws ps
theorem plws_app (a b:List Pl):plws (a++b)=plws a++plws b:=by
 induction a with
 | nil=>rfl
 | cons x xs ih=>simp [plws,ih]
theorem plw_one {ps:List Pl} {i:Nat} {p:Pl} (h:ps[i]? =some p):plw (ps.take (i+1))=plw (ps.take i)++(if decide ((i:Int)>0) then [[59]] else [])++plp p:=by
 cases i with
 | zero =>
  match ps,h with
  | x::xs,hc=>injection hc with hc;subst hc;simp [plw,plws]
 | succ i =>
  rw [if_pos (by simp only [decide_eq_true_eq];omega)]
  match ps,h with
  | x::xs,h =>
   have h:xs[i]? =some p:=by simpa using h
   rw [List.take_succ_cons,List.take_succ_cons,z1U h]
   simp only [plw,plws_app,plws,List.append_nil,List.append_assoc]
theorem plws_len:∀ ps:List Pl,(plws ps).length≤4*ps.length
 | []=>Nat.le_refl _
 | p::ps=>by
  have:=plws_len ps
  have h1:∀ e:Ex,(w1 e).length≤1:=by intro e;unfold w1;split<;>simp
  have:=h1 p.1
  have:=h1 p.2
  simp only [plws,plp,List.length_append,List.length_cons,List.length_nil];omega
theorem plw_len (ps:List Pl):(plw ps).length≤4*ps.length:=by
 cases ps with
 | nil=>simp [plw]
 | cons p ps =>
  have:=plws_len (p::ps)
  simp only [plw,plws,List.length_append,List.length_cons,List.length_nil] at *;omega
def lgE (e:Ex):Bool:=!(e.op==2)&&decide (((textE e 0).length:Int)>6000)
def lgPl (p:Pl):Bool:=lgE p.1||lgE p.2
theorem join_plp (p:Pl) (r:List Bt):Lib.join (plp p++r) [32]=plc p++Lib.joinTail [32] r:=by
 have jt:∀ (x:Bt) (r:List Bt),Lib.joinTail [32] (x::r)=[32]++x++Lib.joinTail [32] r:=fun x r=>by simp [Lib.joinTail]
 unfold plp plc w1 sideT sideTo
 cases h1:(p.1.op==2)<;>cases h2:(p.2.op==2) <;>
  simp [Lib.join_cons,jt,sideB]
theorem join_plw (ps:List Pl):Lib.join (plw ps) [32]=plT ps:=by
 have ht:∀ (a b:List Bt),Lib.joinTail [32] (a++b)=Lib.joinTail [32] a++Lib.joinTail [32] b:=by intro a b;simp [Lib.joinTail]
 have jt:∀ (x:Bt) (r:List Bt),Lib.joinTail [32] (x::r)=[32]++x++Lib.joinTail [32] r:=fun x r=>by simp [Lib.joinTail]
 have js:∀ (p:Pl) (r:List Bt),Lib.joinTail [32] (plp p++r)=[32]++plc p++Lib.joinTail [32] r:=by
  intro p r
  have h1:=join_plp p r
  match hq:plp p++r with
  | []=>simp [plp] at hq
  | x::xs=>rw [hq,Lib.join_cons] at h1;rw [jt,List.append_assoc,h1,List.append_assoc]
 have hs:∀ ps:List Pl,Lib.joinTail [32] (plws ps)=plTs ps:=by
  intro ps
  induction ps with
  | nil=>rfl
  | cons p ps ih =>
   simp only [plws,plTs,List.append_assoc,List.singleton_append,List.cons_append,List.nil_append]
   rw [jt,js,ih]
   simp
 cases ps with
 | nil=>rfl
 | cons p ps=>simp only [plw,plT];rw [join_plp,hs]
section steps
variable {P:Program} {H G:Heap} {al:AL} {K:KL} {Qp:AL→AV→Heap→Prop} {os:List IOper} {d:Nat} {x y:Arg}
theorem z5M {H0:Heap} {v:AV} {l:List Bt} {s:Bt} (hx:evL al x=v) (ho:OwnS H0 H v l) (hy:srcOf 1 H (evL al y)=some (1,[.str s])) (hb:l.length+1≤1000000000)
  (h:∀ H',OwnS H0 H' (.sl H.length 0 (l.length+1) 1) (l++[s])→(∀ j b,H[j]? =some b→(∀ m,v≠.sl j 0 m 1)→H'[j]? =some b)→VV P os ((d,.sl H.length 0 (l.length+1) 1)::al) H' K Qp) :
  VV P (⟨some d,.i (.m (.append 1 16)),[x,y],none,none⟩::os) al H K Qp:=by
 obtain ⟨h1,h2⟩:=ho
 rcases h2 with ⟨rfl,rfl⟩ | ⟨id,rfl,h3,h4,h5⟩
 ·refine st_app0G (ys:=[.str s]) hx hy (by simp) rfl (by simp) (h _ ⟨h1.app _,.inr ⟨_,rfl,?_,h1.len,by simp⟩⟩ ?_)
  ·rw [List.getElem?_append_right (Nat.le_refl _),Nat.sub_self];rfl
  ·intro j b hj _;exact z0H hj
 ·refine st_appG hx h3 (by simp) hy rfl (by omega) (h _ ⟨(h1.set h4).app _,.inr ⟨_,by rw [List.length_append];rfl,?_,h1.len,by simp⟩⟩ ?_)
  ·rw [List.getElem?_append_right (by simp)]
   simp
   exact List.take_of_length_le (by simp)
  ·intro j b hj hn
   refine z0H ?_
   rw [List.getElem?_set,if_neg]
   ·exact hj
   ·rintro rfl;exact hn _ rfl
end steps
theorem own_ne {H0 H:Heap} {v:AV} {l:List Bt} (h:OwnS H0 H v l):∀ m,v≠.sl H.length 0 m 1:=by
 rcases h.2 with ⟨_,rfl⟩ | ⟨id,rfl,hid,_,_⟩
 ·intro m hm;cases hm
 ·intro m hm
  injection hm with hm
  have:=(List.getElem?_eq_some_iff.1 hid).1
  omega
theorem own_fresh {X:Heap} {j n:Nat} {q:Blk} (h:j<X.length):∀ m,AV.sl (X++[q]).length 0 n 1≠.sl j 0 m 1:=by
 intro m hm
 injection hm with hm
 simp at hm;omega
theorem c68 {v:AV} {l:List Pl} (hv:Sl 6 v (l.map encPl)) (hl0:l.length≤24) (hk:∀ p∈l,okE p.1∧okE p.2) (hr:∀ p∈l,vexpr p.1=0∧vexpr p.2=0)
  (hb:(plT l).length≤100000000000000) (H:Heap):ACall PP 34 [v] H (Just H (.tuple [.str (if l.any lgPl then [] else plT l),.int .i64 (if l.any lgPl then 3 else 0)])):=by
 have hl:(l.map encPl).length=l.length:=List.length_map _
 refine ACall.gives (is34.c1 z0W mixed rfl ?_)
 refine z0G ?_
 refine z1B l.length (fun i al H'=>∃ ov,al=[(4,ov),(11,v),(12,.int .i64 (l.map encPl).length),(13,.int .i64 i)]∧OwnS H H' ov (plw (l.take i))∧(l.take i).any lgPl=false) ⟨_,rfl,.nil ⟨_,rfl⟩,by simp⟩ ?_
 rintro i _ H1 hi ⟨ov,rfl,hO,ha⟩
 refine wi_nil ?_
 refine z0G ?_
 refine z0T _ rfl ?_ ?_<;>intro hc
 ·simp only [decide_eq_true_eq] at hc
  obtain ⟨c,hc⟩:=z1E (l:=l) (i:=i) (by omega)
  have hu:=getmap (f:=encPl) hc
  have hm:=List.mem_of_getElem? hc
  have hkc:=hk c hm
  have hrc:=hr c hm
  have k1:=c134 c.1 hkc.1 hrc.1
  have k2:=c134 c.2 hkc.2 hrc.2
  have t1:=textE_le c.1 0
  have t2:=textE_le c.2 0
  have hany:(lgE c.1||lgE c.2)=true→l.any lgPl=true:=z3U (p:=lgPl) hc
  rw [plw_one hc,z2H hc,ha,Bool.false_or]
  have hwl:(plw (l.take i)).length≤96:=by
   have:=plw_len (l.take i)
   rw [List.length_take] at this;omega
  have e1:plp c=w1 c.1++[[95]]++w1 c.2:=rfl
  have e2:w1 c.1=if (c.1.op==2) then [] else [sideBo c.1.op (textE c.1 0)]:=rfl
  have e3:w1 c.2=if (c.2.op==2) then [] else [sideBo c.2.op (textE c.2 0)]:=rfl
  have g1:lgE c.1=(!(c.1.op==2)&&decide (((textE c.1 0).length:Int)>6000)):=rfl
  have g2:lgE c.2=(!(c.2.op==2)&&decide (((textE c.2 0).length:Int)>6000)):=rfl
  have g3:lgPl c=(lgE c.1||lgE c.2):=rfl
  rw [e1,g3]
  clear e1 g3
  have hwl1:(w1 c.1).length≤1:=by rw [e2];split<;>simp
  generalize plw (l.take i)=o0 at *
  generalize lgE c.1=b1 at *
  generalize lgE c.2=b2 at *
  generalize w1 c.1=q1 at *
  generalize w1 c.2=q2 at *
  generalize textE c.1 0=x1 at *
  generalize textE c.2 0=x2 at *
  obtain ⟨⟨op1,s1,nl1,l1⟩,op2,s2,nl2,l2⟩:=c
  rw [show (Ex.mk op1 s1 nl1 l1).op=op1 from rfl] at e2 g1
  rw [show (Ex.mk op2 s2 nl2 l2).op=op2 from rfl] at e3 g2
  unfold encPl at hu
  simp only [z0U] at hu k1 k2
  refine z0G ?_
  refine z1J (n:=0) (ws:=[.int .i64 op1,.str s1,lst nl1 l1,.int .i64 op2,.str s2,lst nl2 l2]) rfl rfl rfl rfl rfl all_Pl rfl ?_
  refine z0G ?_
  refine wi_cut (fun al' H'=>∃ ov tl,al'=(4,ov)::(6,.ptr (H1.length+0) 0)::(11,v)::(12,.int .i64 (l.map encPl).length)::(13,.int .i64 i)::tl∧OwnS H H' ov (o0++(if decide ((i:Int)>0) then [[59]] else [])) ∧
   H'[H1.length+0]? =some (.cells [.int .i64 op1,.str s1,lst nl1 l1,.int .i64 op2,.str s2,lst nl2 l2])) ?_ ?_
  ·refine z0T _ rfl ?_ ?_<;>intro hi0
   ·rw [if_pos hi0]
    refine z0G ?_
    refine z0V (out:=[.str [59]]) rfl ?_
    refine z5M (l:=o0) (s:=[59]) rfl ((hO.app _).app _) (srcOf_last rfl) (by omega) ?_
    intro H' hO' hp
    have hcl:=hp (H1.length+0) (.cells [.int .i64 op1,.str s1,lst nl1 l1,.int .i64 op2,.str s2,lst nl2 l2]) (z0H hp_new) (own_ne hO)
    refine z0G ?_
    exact ⟨_,_,rfl,hO',hcl⟩
   ·rw [hi0,if_neg (by simp),List.append_nil]
    refine z0G ?_
    exact ⟨_,_,rfl,hO.app _,hp_new⟩
  clear hO
  rintro _ H2 ⟨ov2,tl,rfl,hO,hcl⟩
  have hwl2:(o0++(if decide ((i:Int)>0) then [[59]] else [])).length≤97:=by
   rw [List.length_append];split<;>simp<;>omega
  generalize o0++(if decide ((i:Int)>0) then [[59]] else [])=o1 at *
  refine wi_nil ?_
  rw [←List.append_nil H2] at hcl
  refine z0G ?_
  refine z3J (out:=[.int .i64 op1,.str s1,lst nl1 l1,.int .i64 op2,.str s2,lst nl2 l2]) rfl rfl rfl ?_
  refine z0G ?_
  refine z5H (fun al H'=>∃ ov,al=[(4,ov),(11,v),(12,.int .i64 (l.map encPl).length),(13,.int .i64 i),(27,.sl (H2.length+0) 0 2 3),(28,.int .i64 (2:Nat)),(29,.int .i64 (0:Nat))]∧OwnS H H' ov (o1)∧H'[H2.length+0]? =some (.cells [.int .i64 op1,.str s1,lst nl1 l1,.int .i64 op2,.str s2,lst nl2 l2])∧(∀ m,ov≠.sl (H2.length+0) 0 m 1)) (fun al H'=>∃ ov,al=[(4,ov),(11,v),(12,.int .i64 (l.map encPl).length),(13,.int .i64 i),(27,.sl (H2.length+0) 0 2 3),(28,.int .i64 (2:Nat)),(29,.int .i64 (1:Nat))]∧OwnS H H' ov (o1++q1)∧H'[H2.length+0]? =some (.cells [.int .i64 op1,.str s1,lst nl1 l1,.int .i64 op2,.str s2,lst nl2 l2])∧(∀ m,ov≠.sl (H2.length+0) 0 m 1)∧b1=false) (fun al H'=>∃ ov,al=[(4,ov),(11,v),(12,.int .i64 (l.map encPl).length),(13,.int .i64 i),(27,.sl (H2.length+0) 0 2 3),(28,.int .i64 (2:Nat)),(29,.int .i64 (2:Nat))]∧OwnS H H' ov (o1++q1++[[95]]++q2)∧H'[H2.length+0]? =some (.cells [.int .i64 op1,.str s1,lst nl1 l1,.int .i64 op2,.str s2,lst nl2 l2])∧(∀ m,ov≠.sl (H2.length+0) 0 m 1)∧b1=false∧b2=false) ⟨_,rfl,hO.app _,hp_new,own_ne hO⟩ ?_ ?_ ?_
  ·rintro _ H3 ⟨ov,rfl,hO,hcl,hne⟩
   have hlt3:=(List.getElem?_eq_some_iff.1 hcl).1
   refine wi_nil ?_
   rw [←List.append_nil H3] at hcl
   refine z0G ?_
   cases h2:(op1==2)
   ·have qe:q1=[sideBo op1 x1]:=by rw [e2,h2];rfl
    cases hd:decide ((x1.length:Int)>6000)
    ·have kt:∀ H,ACall PP 79 [.agg [.int .i64 op1,.str s1,lst nl1 l1]] H (Just H (.tuple [.str x1,.int .i64 0])):=by
      have e:tE x1=(x1,0):=by unfold tE;rw [hd];rfl
      rw [e] at k1;exact k1
     have bf:b1=false:=by rw [g1,h2,hd];rfl
     refine z0G ?_
     refine z0F rfl (kt _) ?_
     refine z0G ?_
     cases h14:(op1==14)
     ·have se:sideBo op1 x1=x1:=by unfold sideBo;rw [h14];rfl
      rw [qe,se]
      refine z0G ?_
      refine z0V (out:=[.str x1]) rfl ?_
      refine z5M (l:=o1) (s:=x1) rfl (((hO.app _).app _)) (srcOf_last rfl) (by omega) ?_
      intro H5 hO5 hp5
      have hcl5:=hp5 (H2.length+0) (.cells [.int .i64 op1,.str s1,lst nl1 l1,.int .i64 op2,.str s2,lst nl2 l2]) (z0H (by rw [List.append_nil] at hcl;exact z0H hcl)) hne
      have hne5:=own_fresh (n:=(o1).length+1) (j:=H2.length+0) (X:=(H3++[Blk.cells [.int .i64 op1,.str s1,lst nl1 l1]]:Heap)) (q:=.cells [.str x1]) (by simp;omega)
      refine z0G ?_
      exact ⟨_,rfl,hO5,hcl5,hne5,bf⟩
     ·have se:sideBo op1 x1=[91]++x1++[93]:=by unfold sideBo;rw [h14];rfl
      rw [qe,se]
      refine z3L ?_
      refine z0V (out:=[.str ([91]++x1++[93])]) rfl ?_
      refine z5M (l:=o1) (s:=([91]++x1++[93])) rfl (((hO.app _).app _)) (srcOf_last rfl) (by omega) ?_
      intro H5 hO5 hp5
      have hcl5:=hp5 (H2.length+0) (.cells [.int .i64 op1,.str s1,lst nl1 l1,.int .i64 op2,.str s2,lst nl2 l2]) (z0H (by rw [List.append_nil] at hcl;exact z0H hcl)) hne
      have hne5:=own_fresh (n:=(o1).length+1) (j:=H2.length+0) (X:=(H3++[Blk.cells [.int .i64 op1,.str s1,lst nl1 l1]]:Heap)) (q:=.cells [.str ([91]++x1++[93])]) (by simp;omega)
      refine z0G ?_
      exact ⟨_,rfl,hO5,hcl5,hne5,bf⟩
    ·have kt:∀ H,ACall PP 79 [.agg [.int .i64 op1,.str s1,lst nl1 l1]] H (Just H (.tuple [.str [],.int .i64 3])):=by
      have e:tE x1=([],3):=by unfold tE;rw [hd];rfl
      rw [e] at k1;exact k1
     have bt:b1=true:=by rw [g1,h2,hd];rfl
     rw [hany (by rw [bt];simp)]
     refine z0G ?_
     refine z0F rfl (kt _) ?_
     refine z0G ?_
     exact z1G rfl (z0M ((hO.app _)).1 (plain_se _ _))
   ·have qe:q1=[]:=by rw [e2,h2];rfl
    have bf:b1=false:=by rw [g1,h2];rfl
    rw [qe,List.append_nil]
    refine z0G ?_
    exact ⟨_,rfl,(hO.app _),(by rw [List.append_nil] at hcl;exact z0H hcl),hne,bf⟩
  ·rintro _ H3 ⟨ov,rfl,hO,hcl,hne,hb1⟩
   have hlt3:=(List.getElem?_eq_some_iff.1 hcl).1
   refine wi_nil ?_
   rw [←List.append_nil H3] at hcl
   refine z0G ?_
   refine z0V (out:=[.str [95]]) rfl ?_
   refine z5M (l:=o1++q1) (s:=[95]) rfl ((hO.app _).app _) (srcOf_last rfl) (by rw [List.length_append];omega) ?_
   intro H4 hO4 hp
   have hcl4:=hp (H2.length+0) (.cells [.int .i64 op1,.str s1,lst nl1 l1,.int .i64 op2,.str s2,lst nl2 l2]) (z0H (by rw [List.append_nil] at hcl;exact z0H hcl)) hne
   have hv8:=hp (H3.length+0) (.cells [.int .i64 op2,.str s2,lst nl2 l2]) (z0H hp_new) (own_ne hO)
   have hne4:=own_fresh (n:=(o1++q1).length+1) (j:=H2.length+0) (X:=(H3++[Blk.cells [.int .i64 op2,.str s2,lst nl2 l2]]:Heap)) (q:=.cells [.str [95]]) (by simp;omega)
   refine z0G ?_
   cases h2:(op2==2)
   ·have qe:q2=[sideBo op2 x2]:=by rw [e3,h2];rfl
    cases hd:decide ((x2.length:Int)>6000)
    ·have kt:∀ H,ACall PP 79 [.agg [.int .i64 op2,.str s2,lst nl2 l2]] H (Just H (.tuple [.str x2,.int .i64 0])):=by
      have e:tE x2=(x2,0):=by unfold tE;rw [hd];rfl
      rw [e] at k2;exact k2
     have bf:b2=false:=by rw [g2,h2,hd];rfl
     refine z0G ?_
     refine z0F rfl (kt _) ?_
     refine z0G ?_
     cases h14:(op2==14)
     ·have se:sideBo op2 x2=x2:=by unfold sideBo;rw [h14];rfl
      rw [qe,se]
      refine z0G ?_
      refine z0V (out:=[.str x2]) rfl ?_
      refine z5M (l:=o1++q1++[[95]]) (s:=x2) rfl ((hO4.app _)) (srcOf_last rfl) (by rw [List.length_append,List.length_append];simp;omega) ?_
      intro H5 hO5 hp5
      have hcl5:=hp5 (H2.length+0) (.cells [.int .i64 op1,.str s1,lst nl1 l1,.int .i64 op2,.str s2,lst nl2 l2]) (z0H hcl4) hne4
      have hne5:=own_fresh (n:=(o1++q1++[[95]]).length+1) (j:=H2.length+0) (X:=H4) (q:=.cells [.str x2]) (by exact (List.getElem?_eq_some_iff.1 hcl4).1)
      refine z0G ?_
      exact ⟨_,rfl,hO5,hcl5,hne5,hb1,bf⟩
     ·have se:sideBo op2 x2=[91]++x2++[93]:=by unfold sideBo;rw [h14];rfl
      rw [qe,se]
      refine z3L ?_
      refine z0V (out:=[.str ([91]++x2++[93])]) rfl ?_
      refine z5M (l:=o1++q1++[[95]]) (s:=([91]++x2++[93])) rfl ((hO4.app _)) (srcOf_last rfl) (by rw [List.length_append,List.length_append];simp;omega) ?_
      intro H5 hO5 hp5
      have hcl5:=hp5 (H2.length+0) (.cells [.int .i64 op1,.str s1,lst nl1 l1,.int .i64 op2,.str s2,lst nl2 l2]) (z0H hcl4) hne4
      have hne5:=own_fresh (n:=(o1++q1++[[95]]).length+1) (j:=H2.length+0) (X:=H4) (q:=.cells [.str ([91]++x2++[93])]) (by exact (List.getElem?_eq_some_iff.1 hcl4).1)
      refine z0G ?_
      exact ⟨_,rfl,hO5,hcl5,hne5,hb1,bf⟩
    ·have kt:∀ H,ACall PP 79 [.agg [.int .i64 op2,.str s2,lst nl2 l2]] H (Just H (.tuple [.str [],.int .i64 3])):=by
      have e:tE x2=([],3):=by unfold tE;rw [hd];rfl
      rw [e] at k2;exact k2
     have bt:b2=true:=by rw [g2,h2,hd];rfl
     rw [hany (by rw [bt];simp)]
     refine z0G ?_
     refine z0F rfl (kt _) ?_
     refine z0G ?_
     exact z1G rfl (z0M (hO4).1 (plain_se _ _))
   ·have qe:q2=[]:=by rw [e3,h2];rfl
    have bf:b2=false:=by rw [g2,h2];rfl
    rw [qe,List.append_nil]
    refine z0G ?_
    exact ⟨_,rfl,hO4,hcl4,hne4,hb1,bf⟩
  ·rintro _ H3 ⟨ov,rfl,hO,hcl,hne,hb1,hb2⟩
   refine z0G ?_
   have hO:OwnS H H3 ov (o1++(q1++[[95]]++q2)):=by simpa only [List.append_assoc] using hO
   exact ⟨by omega,_,rfl,hO,by rw [hb1,hb2];rfl⟩
 simp only [decide_eq_false_iff_not] at hc
 have:i=l.length:=by omega
 subst this
 rw [List.take_length] at hO ha
 rw [ha]
 simp only [Bool.false_eq_true,if_false]
 have hj:Lib.join (plw l) [32]=plT l:=join_plw l
 have hln:=plw_len l
 rw [←hj] at hb ⊢
 refine z0G ?_
 refine z0F rfl (z3N (hO.app _).src (by omega) (by omega)) ?_
 refine z0G ?_
 exact z1G rfl (z0M (hO.app _).1 (plain_se _ _))
def prp (k:Int) (p:Pr):List Bt:=[ptext p.a.l,arrowS k,ptext p.b.l]
def prws (k:Int):List Pr→List Bt
 | []=>[]
 | p::ps=>[[44]]++prp k p++prws k ps
def prw (k:Int):List Pr→List Bt
 | []=>[]
 | p::ps=>prp k p++prws k ps
theorem prws_app (k:Int) (a b:List Pr):prws k (a++b)=prws k a++prws k b:=by
 induction a with
 | nil=>rfl
 | cons x xs ih=>simp [prws,ih]
theorem prw_one {k:Int} {ps:List Pr} {i:Nat} {p:Pr} (h:ps[i]? =some p):prw k (ps.take (i+1))=prw k (ps.take i)++(if decide ((i:Int)>0) then [[44]] else [])++prp k p:=by
 cases i with
 | zero =>
  match ps,h with
  | x::xs,hc=>injection hc with hc;subst hc;simp [prw,prws]
 | succ i =>
  rw [if_pos (by simp only [decide_eq_true_eq];omega)]
  match ps,h with
  | x::xs,h =>
   have h:xs[i]? =some p:=by simpa using h
   rw [List.take_succ_cons,List.take_succ_cons,z1U h]
   simp only [prw,prws_app,prws,List.append_nil,List.append_assoc]
theorem prws_len (k:Int):∀ ps:List Pr,(prws k ps).length≤4*ps.length
 | []=>Nat.le_refl _
 | p::ps=>by
  have:=prws_len k ps
  simp only [prws,prp,List.length_append,List.length_cons,List.length_nil];omega
theorem prw_len (k:Int) (ps:List Pr):(prw k ps).length≤4*ps.length:=by
 cases ps with
 | nil=>simp [prw]
 | cons p ps =>
  have:=prws_len k ps
  simp only [prw,prp,List.length_append,List.length_cons,List.length_nil] at *;omega
theorem join_prw (k:Int) (ps:List Pr) (hn:ps≠[]) (m:List Bt):Lib.join (prw k ps++m) [32]=prT k ps++Lib.joinTail [32] m:=by
 have ht:∀ (a b:List Bt),Lib.joinTail [32] (a++b)=Lib.joinTail [32] a++Lib.joinTail [32] b:=by intro a b;simp [Lib.joinTail]
 have js:∀ ps:List Pr,Lib.joinTail [32] (prws k ps)=prTs k ps:=by
  intro ps
  induction ps with
  | nil=>rfl
  | cons p ps ih =>
   simp only [prws,prTs,ht,ih,prc,prp]
   simp [Lib.joinTail]
 cases ps with
 | nil=>exact absurd rfl hn
 | cons p ps =>
  simp only [prw,prT,prp,List.cons_append,List.nil_append]
  rw [Lib.join_cons]
  have e:∀ x y:Bt,x::y::(prws k ps++m)=[x,y]++prws k ps++m:=fun x y=>rfl
  rw [e,ht,ht,js]
  simp [Lib.joinTail,prc]
def moreL (r:Ru):List Bt :=
 if ((r.places.length:Int)==0) then (if r.below then [[47,47],[95]] else []) else [if r.below then [47,47] else [124,124],if r.places.any lgPl then [] else plT r.places]
def moreE (r:Ru):Int:=if ((r.places.length:Int)==0) then 0 else if r.places.any lgPl then 3 else 0
theorem moreL_len (r:Ru):(moreL r).length≤2:=by
 unfold moreL;repeat' split
 all_goals simp
theorem tail_more {r:Ru} (h:moreE r=0):Lib.joinTail [32] (moreL r)=tailR r:=by
 obtain ⟨kind,pn,pairs,ln,places,below⟩:=r
 unfold moreE at h
 unfold moreL tailR
 simp only at h ⊢
 cases hp:((places.length:Int)==0)
 ·have hlg:(places.any lgPl)=false:=by
   rw [hp] at h
   cases hq:places.any lgPl with
   | false=>rfl
   | true=>rw [hq] at h;exact absurd h (by decide)
  rw [hlg]
  have h0:decide ((places.length:Int)>0)=true:=by
   simp only [beq_eq_false_iff_ne,ne_eq] at hp
   simp only [decide_eq_true_eq];omega
  rw [h0]
  cases below<;>simp [Lib.joinTail]
 ·have h0:decide ((places.length:Int)>0)=false:=by
   simp only [beq_iff_eq] at hp
   simp only [decide_eq_false_iff_not];omega
  rw [h0]
  cases below<;>simp [Lib.joinTail]
def lgP1 (p:Pr):Bool:=decide (((wtext p.a.l).length:Int)>400)||decide (((wtext p.b.l).length:Int)>400)
theorem lg_eq (w:List Bt):decide (((ptext w).length:Int)>400)=decide (((wtext w).length:Int)>400):=by
 unfold ptext
 split
 ·rename_i h
  have:w=[]:=by simpa using h
  subst this;rfl
 ·rfl
theorem lgP_eq:lgP1=lgP:=funext fun p=>by unfold lgP1 lgP;rw [lg_eq,lg_eq]
def text1 (r:Ru):Bt × Int :=
 if vrule r != 0 then ([],vrule r) else if r.pairs.any brkP then ([],1) else if r.pairs.any lgP1 then ([],3) else if moreE r != 0 then ([],moreE r) else if decide (((fullR r).length:Int)>6000) then ([],3) else (fullR r,0)
theorem plc_le (p:Pl):∀ ps:List Pl,p∈ps→(plc p).length≤(plT ps).length∧(plc p).length≤(plTs ps).length
 | [],h=>by cases h
 | q::ps,h=>by
  simp only [plT,plTs,List.length_append,List.length_cons,List.length_nil]
  rcases List.mem_cons.1 h with rfl | h
  ·exact ⟨by omega,by omega⟩
  ·have:=(plc_le p ps h).2
   exact ⟨by omega,by omega⟩
mutual
theorem w_size:∀ e:Ex,e.right=true→e.w≤17*e.size
 | .mk op s nl l,h=>by
  have hk:=right_facts h
  have hs:s.length≤16:=by
   have hr:(Ex.mk op s nl l).right=(!badNode (kidsS op) op s l.length && !badSym op s&&rights l):=rfl
   rw [hr] at h
   simp only [Bool.and_eq_true,Bool.not_eq_true'] at h
   obtain ⟨⟨h1,h2⟩,_⟩:=h
   by_cases h0:op=0
   ·subst h0
    have:vword [s]=0:=by simpa [badSym] using h2
    exact (vword_le this).2.1 s (by simp)
   ·have:s=[]:=by
     simp only [badNode,Bool.or_eq_false_iff] at h1
     have:=h1.2
     simpa [h0] using this
    subst this;simp
  have:=ws_size l hk.2.2.2.2.2
  simp only [Ex.w,Ex.size];omega
theorem ws_size:∀ l:List Ex,(∀ x∈l,x.right=true)→ws l≤17*sizes l
 | [],_=>Nat.le_refl _
 | x::xs,h=>by
  have:=w_size x (h x (by simp))
  have:=ws_size xs fun y hy=>h y (by simp [hy])
  simp only [ws,sizes];omega
end
theorem w_le {e:Ex} (h:vexpr e=0):e.w≤680:=by
 have h1:=w_size e (vexpr_right h)
 unfold vexpr at h
 split at h
 ·cases h
 ·rename_i h2;simp only [Bool.or_eq_true,decide_eq_true_eq,not_or] at h2;omega
theorem plTs_le:∀ l:List Pl,(∀ p∈l,vexpr p.1=0∧vexpr p.2=0)→(plTs l).length≤28570*l.length
 | [],_=>by simp [plTs]
 | p::ps,h=>by
  have:=plTs_le ps fun q hq=>h q (List.mem_cons_of_mem _ hq)
  have h1:=h p (by simp)
  have w1:=w_le h1.1
  have w2:=w_le h1.2
  have ta:=sideT_le p.1 true
  have tb:=sideT_le p.2 false
  simp only [plTs,plc,List.length_append,List.length_cons,List.length_nil];omega
theorem plT_le (l:List Pl) (h:∀ p∈l,vexpr p.1=0∧vexpr p.2=0) (hn:l.length≤24):(plT l).length≤1000000:=by
 have h1:=plTs_le l h
 have h2:(plT l).length≤(plTs l).length:=by
  cases l with
  | nil=>simp [plT]
  | cons p ps=>simp only [plT,plTs,List.length_append];omega
 omega
theorem good_ls {r:Ru} (h:vrule r=0):(∀ p∈r.places,vexpr p.1=0∧vexpr p.2=0)∧r.pairs≠[]:=by
 unfold vrule at h
 split at h;· cases h
 split at h;· cases h
 split at h
 ·rename_i h2;rw [h] at h2;exact absurd h2 (by decide)
 split at h
 ·rename_i h3;rw [h] at h3;exact absurd h3 (by decide)
 rename_i h3
 split at h;· cases h
 rename_i h4
 have h3:lerr vexpr r.places=0:=by simpa using h3
 refine ⟨lerr_zero h3,?_⟩
 rintro hp
 simp [formR,hp] at h4
theorem ends_tup {H H':Heap} {l:List Bt} {e:Int} {id:Nat} (hx:Ext H H') (hg:H'[id]? =some (.cells (l.map .str))) (hid:H.length≤id) (hl:l≠[]) :
  Gives H (.tuple [encW ⟨true,l⟩,.int .i64 e]) (.ret (.tuple [.sl id 0 l.length 1,.int .i64 e])) H':=by
 have he:encW ⟨true,l⟩=.list 1 (l.map .str):=by
  unfold encW
  rw [if_neg]
  intro h
  simp only [Bool.and_eq_true,List.isEmpty_iff] at h
  exact hl h.2
 obtain ⟨G,hG⟩:=hx.set (id:=id) (b:=.dead) hid
 refine ⟨_,G,rfl,.step id _ hg (v':=.tuple [.list 1 (l.map .str),.int .i64 e]) ?_ ?_,plain_ans ⟨true,l⟩ e⟩
 ·refine .tuple _ _ rfl fun j=>?_
  match j with
  | 0=>exact sealStrs id l
  | 1=>exact .refl _
  | j+2=>exact .refl _
 ·rw [hG,he];exact .done _ _
theorem c32 (r:Ru) (hr:okR r) (h0:vrule r=0) (H:Heap):ACall PP 15 [encR r] H (Just H (.tuple [encW ⟨true,moreL r⟩,.int .i64 (moreE r)])):=by
 have hg:=good h0
 have hls:=(good_ls h0).1
 have k68:=c68 (sl_Ls r.ln r.places) hg.nl hr.ls hls (by have:=plT_le _ hls hg.nl;omega)
 unfold moreL moreE
 obtain ⟨kind,pn,pairs,ln,places,below⟩:=r
 have hsl:=sl_Ls ln places
 have hll:(places.map encPl).length=places.length:=List.length_map _
 have e2:(((places.map encPl).length:Int)==0)=((places.length:Int)==0):=by rw [hll]
 simp only at k68 ⊢
 clear hg hls h0 hr
 generalize places.any lgPl=lg at *
 generalize plT places=pt at *
 unfold encR
 refine ACall.gives (is15.c1 z0W mixed rfl ?_)
 have fin:∀ {G:Heap} {s t:Bt} {e:Int} {n:Nat},G[n]? =some (.cells [.str s,.str t]) →
   Gives H (.tuple [encW ⟨true,[s,t]⟩,.int .i64 e]) (.ret (.tuple [.sl (H.length+n) 0 2 1,.int .i64 e])) (H++G):=fun h =>
  ends_tup (l:=[_,_]) ⟨_,rfl⟩ (by rw [hp_new];exact h) (by omega) (by simp)
 cases below
 ·refine z0G ?_
  rw [e2]
  cases hn:((places.length:Int)==0)
  ·refine z0G ?_
   refine z0F rfl (k68 _) ?_
   simp only [Bool.false_eq_true,if_false]
   refine z0G ?_
   refine z3J (out:=[.str [124,124],.str (if lg then [] else pt)]) rfl rfl rfl ?_
   refine z0G ?_
   exact z1G rfl (fin rfl)
  ·simp only [Bool.false_eq_true,if_false,if_true]
   refine z0G ?_
   exact fr (hp:=plain_ans ⟨true,[]⟩ _)
 ·refine z0G ?_
  rw [e2]
  cases hn:((places.length:Int)==0)
  ·refine z0G ?_
   refine z0F rfl (k68 _) ?_
   simp only [Bool.false_eq_true,if_false,if_true]
   refine z0G ?_
   refine z3J (out:=[.str [47,47],.str (if lg then [] else pt)]) rfl rfl rfl ?_
   refine z0G ?_
   exact z1G rfl (fin rfl)
  ·simp only [if_true]
   refine z0G ?_
   refine z3J (out:=[.str [47,47],.str [95]]) rfl rfl rfl ?_
   refine z0G ?_
   exact z1G rfl (fin rfl)
end Go.Ab
