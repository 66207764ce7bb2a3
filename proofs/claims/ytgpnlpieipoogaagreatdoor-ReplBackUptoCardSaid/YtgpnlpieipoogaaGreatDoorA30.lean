/- Part 30 of the proof. -/
import Derived.Test.YtgpnlpieipoogaaGreatDoorA29
set_option linter.unusedVariables false
set_option linter.unusedSimpArgs false
namespace Go.Ab
open Go
set_option maxRecDepth 100000
set_option maxHeartbeats 8000000
def sel3 (S0 S1 S2:AL→Heap→Prop):Nat→AL→Heap→Prop
 | 0=>S0
 | 1=>S1
 | 2=>S2
 | _+3=>fun _ _=>False
theorem then_mono {K K':AL→Heap→Prop} {Q:PL} (hk:∀ al H,K al H→K' al H):∀ x al H,LX.then K Q x al H→LX.then K' Q x al H:=by
 intro x al H q
 cases x with
 | normal=>exact hk _ _ q
 | _=>exact q
theorem z5H {P:Program} {H:Heap} {al:AL} {Q:PL} {c:IC} {keep:List Nat} (S0 S1 S2:AL→Heap→Prop) (h:S0 (keepL al keep) H)
  (h0:∀ al H,S0 al H→WI P c (LX.then (fun al' H'=>S1 (keepL al' keep) H') Q) al H)
  (h1:∀ al H,S1 al H→WI P c (LX.then (fun al' H'=>S2 (keepL al' keep) H') Q) al H)
  (h2:∀ al H,S2 al H→WI P c (LX.then (fun _ _=>False) Q) al H):WI P (.loop (some keep) c) Q al H:=by
 refine z1B 3 (sel3 S0 S1 S2) h ?_
 intro i al H hi hS
 match i,hi,hS with
 | 0,hi,hS=>exact (h0 al H hS).mono (then_mono fun al H q=>⟨by omega,q⟩)
 | 1,hi,hS=>exact (h1 al H hS).mono (then_mono fun al H q=>⟨by omega,q⟩)
 | 2,hi,hS=>exact (h2 al H hS).mono (then_mono fun al H q=>q.elim)
 | i+3,hi,hS=>exact hS.elim
abbrev Pl:=Ex × Ex
def encPl (p:Pl):AV:=match p with
 | (.mk a b c d,.mk a' b' c' d')=>.agg [.int .i64 a,.str b,lst c d,.int .i64 a',.str b',lst c' d']
structure Ru where
 kind:Int
 pn:Bool
 pairs:List Pr
 ln:Bool
 places:List Pl
 below:Bool
def encPs (nl:Bool) (l:List Pr):AV:=if nl&&l.isEmpty then .nilslice else .list 2 (l.map encP)
def encLs (nl:Bool) (l:List Pl):AV:=if nl&&l.isEmpty then .nilslice else .list 6 (l.map encPl)
theorem sl_Ps (nl:Bool) (l:List Pr):Sl 2 (encPs nl l) (l.map encP):=by
 unfold encPs
 cases l with
 | nil=>cases nl<;>first | exact .nil | exact .list []
 | cons x xs=>simp only [List.isEmpty_cons,Bool.and_false,Bool.false_eq_true,if_false];exact .list _
theorem sl_Ls (nl:Bool) (l:List Pl):Sl 6 (encLs nl l) (l.map encPl):=by
 unfold encLs
 cases l with
 | nil=>cases nl<;>first | exact .nil | exact .list []
 | cons x xs=>simp only [List.isEmpty_cons,Bool.and_false,Bool.false_eq_true,if_false];exact .list _
theorem scalar_Ls (nl:Bool) (l:List Pl):AV.scalar (encLs nl l)=true:=by unfold encLs;split<;>rfl
def encR (r:Ru):AV:=.agg [.int .i64 r.kind,encPs r.pn r.pairs,encLs r.ln r.places,.bool r.below]
structure okR (r:Ru):Prop where
 np:r.pairs.length≤1000000000000
 nl:r.places.length≤1000000000000
 ps:∀ p∈r.pairs,okP p
 ls:∀ p∈r.places,okE p.1∧okE p.2
def longP (p:Pr):Bool:=decide ((p.a.l.length:Int)>6)||decide ((p.b.l.length:Int)>60)
def perr:List Pr→Int
 | []=>0
 | p::ps=>if vword p.a.l != 0 then vword p.a.l else if vword p.b.l != 0 then vword p.b.l else perr ps
def lerr (v:Ex→Int):List Pl→Int
 | []=>0
 | p::ps=>if v p.1 != 0 then v p.1 else if v p.2 != 0 then v p.2 else lerr v ps
def formR (r:Ru):Bool:=decide (r.kind<0)||decide (r.kind>3)||((r.pairs.length:Int)==0)||(r.below&&decide (r.kind<2))||twice r.pairs
def oddPl (p:Pl):Bool:=p.1.odd||p.2.odd
def vrule (r:Ru):Int :=
 if decide ((r.pairs.length:Int)>24)||decide ((r.places.length:Int)>24) then 3 else if r.pairs.any longP then 3 else
 if perr r.pairs != 0 then perr r.pairs else if lerr vexpr r.places != 0 then lerr vexpr r.places else if formR r then 1 else if r.places.any oddPl then 1 else 0
theorem all_Pl {a a':Int} {b b':List UInt8} {c c':Bool} {d d':List Ex}:([.int .i64 a,.str b,lst c d,.int .i64 a',.str b',lst c' d']:List AV).all AV.scalar=true:=by
 simp only [List.all_cons,scalar_lst,List.all_nil];rfl
theorem fill2W {a b:Wd}:fillA (if 2*1=0 then [] else copies 2 [.nilslice]) [(0,1),(1,1)] [encW a,encW b]=some [encW a,encW b]:=by
 unfold encW
 generalize (a.nl&&a.l.isEmpty)=p
 generalize (b.nl&&b.l.isEmpty)=q
 cases p<;>cases q<;>rfl
theorem c15 (r:Ru) (hr:okR r) (H:Heap):ACall PP 12 [encR r] H (Just H (.int .i64 (vrule r))):=by
 obtain ⟨kind,pn,pairs,ln,places,below⟩:=r
 obtain ⟨hnp,hnl,hps,hls⟩:=hr
 simp only at hnp hnl hps hls
 have hsp:=sl_Ps pn pairs
 have hsl:=sl_Ls ln places
 have hlp:(pairs.map encP).length=pairs.length:=List.length_map _
 have hll:(places.map encPl).length=places.length:=List.length_map _
 have e1:∀ k:Int,decide (((pairs.map encP).length:Int)>k)=decide ((pairs.length:Int)>k):=fun k=>by rw [hlp]
 have e2:∀ k:Int,decide (((places.map encPl).length:Int)>k)=decide ((places.length:Int)>k):=fun k=>by rw [hll]
 have e3:(((pairs.map encP).length:Int)==0)=((pairs.length:Int)==0):=by rw [hlp]
 have hv:vrule ⟨kind,pn,pairs,ln,places,below⟩=if decide ((pairs.length:Int)>24)||decide ((places.length:Int)>24) then 3 else if pairs.any longP then 3 else
   if perr pairs != 0 then perr pairs else if lerr vexpr places != 0 then lerr vexpr places else if formR ⟨kind,pn,pairs,ln,places,below⟩ then 1 else if places.any oddPl then 1 else 0:=rfl
 refine ACall.gives (is12.c1 z0W mixed rfl ?_)
 unfold encR
 rw [hv]
 refine z0G ?_
 rw [e1]
 refine z3Y [(1,.ptr (H.length+0) 0),(26,.bool (decide ((pairs.length:Int)>24)||decide ((places.length:Int)>24)))] (H++[.cells [.int .i64 kind,encPs pn pairs,encLs ln places,.bool below]]) ?_ ?_
 ·cases h1:decide ((pairs.length:Int)>24)
  ·refine z0G ?_
   rw [e2]
   refine z0G ?_
   exact z0Z rfl rfl
  ·refine z0G ?_
   exact z0Z rfl rfl
 refine nx_n ?_
 refine z0T _ rfl ?_ ?_<;>intro h1
 ·rw [h1]
  refine z0G ?_
  exact fr
 rw [h1]
 refine z0G ?_
 refine z1B pairs.length (fun i al H'=>al=[(1,.ptr (H.length+0) 0),(28,encPs pn pairs),(29,.int .i64 (pairs.map encP).length),(30,.int .i64 i)]∧Ext H H' ∧
  H'[H.length+0]? =some (.cells [.int .i64 kind,encPs pn pairs,encLs ln places,.bool below])∧(pairs.take i).any longP=false) ⟨rfl,⟨_,rfl⟩,hp_new,by simp⟩ ?_
 rintro i _ H1 hi ⟨rfl,hx,hb,ha⟩
 refine wi_nil ?_
 refine z0G ?_
 refine z0T _ rfl ?_ ?_<;>intro hc
 ·simp only [decide_eq_true_eq] at hc
  obtain ⟨c,hc⟩:=z1E (l:=pairs) (i:=i) (by omega)
  have hu:(pairs.map encP)[i]? =some (.agg [encW c.a,encW c.b]):=getmap (f:=encP) hc
  have ht:=z2H (p:=longP) hc
  have hany:=z3U (p:=longP) hc
  have s1:=sl_W c.a
  have s2:=sl_W c.b
  have l1:∀ k:Int,decide (((c.a.l.map AV.str).length:Int)>k)=decide ((c.a.l.length:Int)>k):=fun k=>by rw [List.length_map]
  have l2:∀ k:Int,decide (((c.b.l.map AV.str).length:Int)>k)=decide ((c.b.l.length:Int)>k):=fun k=>by rw [List.length_map]
  refine z0G ?_
  refine z1J (n:=0) (ws:=[encW c.a,encW c.b]) rfl rfl rfl rfl rfl all_W rfl ?_
  refine z0G ?_
  rw [l1]
  cases h2:decide ((c.a.l.length:Int)>6)
  ·refine z0G ?_
   rw [l2]
   cases h3:decide ((c.b.l.length:Int)>60)
   ·refine z0G ?_
    exact ⟨by omega,rfl,hx.app _,z0H hb,by rw [ht,ha];simp only [longP,h2,h3];rfl⟩
   ·rw [hany (by simp only [longP,h2,h3];rfl)]
    refine z0G ?_
    exact z1G rfl (z0M (hx.app _) (Plain.int _ _))
  ·rw [hany (by simp only [longP,h2];rfl)]
   refine z0G ?_
   exact z1G rfl (z0M (hx.app _) (Plain.int _ _))
 simp only [decide_eq_false_iff_not] at hc
 have:i=pairs.length:=by omega
 subst this
 rw [List.take_length] at ha
 rw [ha]
 clear hc hi
 refine z0G ?_
 refine z1B pairs.length (fun i al H'=>al=[(1,.ptr (H.length+0) 0),(46,encPs pn pairs),(47,.int .i64 (pairs.map encP).length),(48,.int .i64 i)]∧Ext H H' ∧
  H'[H.length+0]? =some (.cells [.int .i64 kind,encPs pn pairs,encLs ln places,.bool below])∧perr pairs=perr (pairs.drop i)) ⟨rfl,hx.app _,z0H hb,rfl⟩ ?_
 clear hx hb ha H1
 rintro i _ H1 hi ⟨rfl,hx,hb,ha⟩
 refine wi_nil ?_
 refine z0G ?_
 refine z0T _ rfl ?_ ?_<;>intro hc
 ·simp only [decide_eq_true_eq] at hc
  obtain ⟨c,hc⟩:=z1E (l:=pairs) (i:=i) (by omega)
  have hu:(pairs.map encP)[i]? =some (.agg [encW c.a,encW c.b]):=getmap (f:=encP) hc
  have hok:=hps c (List.mem_of_getElem? hc)
  rw [z3K hc] at ha
  simp only [perr] at ha
  have k1:=fun H=>c38 (sl_W c.a) hok.1 H
  have k2:=fun H=>c38 (sl_W c.b) hok.2 H
  refine z0G ?_
  refine z1J (n:=0) (ws:=[encW c.a,encW c.b]) rfl rfl rfl rfl rfl all_W rfl ?_
  refine z0G ?_
  refine z3J (out:=[encW c.a,encW c.b]) fill2W rfl rfl ?_
  refine z0G ?_
  have fin:∀ b,vword c.b.l=b→vword c.a.l=0→b≠0→perr pairs=b:=by
   intro b h1 h2 h3;rw [ha,h2,h1,if_neg (by simp),if_pos (by simpa using h3)]
  refine z5H (fun al H'=>al=[(1,.ptr (H.length+0) 0),(46,encPs pn pairs),(47,.int .i64 (pairs.map encP).length),(48,.int .i64 i),(56,.sl (H1.length+1) 0 2 1),(57,.int .i64 (2:Nat)),(58,.int .i64 (0:Nat))]∧H'=H1++[.cells [encW c.a,encW c.b],.cells [encW c.a,encW c.b]])
   (fun al H'=>al=[(1,.ptr (H.length+0) 0),(46,encPs pn pairs),(47,.int .i64 (pairs.map encP).length),(48,.int .i64 i),(56,.sl (H1.length+1) 0 2 1),(57,.int .i64 (2:Nat)),(58,.int .i64 (1:Nat))]∧H'=H1++[.cells [encW c.a,encW c.b],.cells [encW c.a,encW c.b]]∧vword c.a.l=0)
   (fun al H'=>al=[(1,.ptr (H.length+0) 0),(46,encPs pn pairs),(47,.int .i64 (pairs.map encP).length),(48,.int .i64 i),(56,.sl (H1.length+1) 0 2 1),(57,.int .i64 (2:Nat)),(58,.int .i64 (2:Nat))]∧H'=H1++[.cells [encW c.a,encW c.b],.cells [encW c.a,encW c.b]]∧vword c.a.l=0∧vword c.b.l=0)
   ⟨rfl,rfl⟩ ?_ ?_ ?_
  ·rintro _ _ ⟨rfl,rfl⟩
   refine z0G ?_
   refine z0F rfl (k1 _) ?_
   refine z0G ?_
   refine z0T _ rfl ?_ ?_<;>intro h1
   ·rw [ha,if_pos h1,if_pos h1]
    refine z0G ?_
    exact z1G rfl (z0M (hx.app _) (Plain.int _ _))
   ·refine z0G ?_
    exact ⟨rfl,rfl,by simpa using h1⟩
  ·rintro _ _ ⟨rfl,rfl,h0⟩
   refine z0G ?_
   refine z0F rfl (k2 _) ?_
   refine z0G ?_
   refine z0T _ rfl ?_ ?_<;>intro h1
   ·rw [fin _ rfl h0 (by simpa using h1),if_pos h1]
    refine z0G ?_
    exact z1G rfl (z0M (hx.app _) (Plain.int _ _))
   ·refine z0G ?_
    exact ⟨rfl,rfl,h0,by simpa using h1⟩
  ·rintro _ _ ⟨rfl,rfl,h0,h1⟩
   refine z0G ?_
   exact ⟨by omega,rfl,hx.app _,z0H hb,by rw [ha,h0,h1];rfl⟩
 simp only [decide_eq_false_iff_not] at hc
 have:i=pairs.length:=by omega
 subst this
 rw [List.drop_length] at ha
 rw [ha]
 clear hc hi
 refine z0G ?_
 refine z1B places.length (fun i al H'=>al=[(1,.ptr (H.length+0) 0),(70,encLs ln places),(71,.int .i64 (places.map encPl).length),(72,.int .i64 i)]∧Ext H H' ∧
  H'[H.length+0]? =some (.cells [.int .i64 kind,encPs pn pairs,encLs ln places,.bool below])∧lerr vexpr places=lerr vexpr (places.drop i)) ⟨rfl,hx.app _,z0H hb,rfl⟩ ?_
 clear hx hb ha H1
 rintro i _ H1 hi ⟨rfl,hx,hb,ha⟩
 refine wi_nil ?_
 refine z0G ?_
 refine z0T _ rfl ?_ ?_<;>intro hc
 ·simp only [decide_eq_true_eq] at hc
  obtain ⟨c,hc⟩:=z1E (l:=places) (i:=i) (by omega)
  obtain ⟨⟨o1,s1,n1,l1⟩,⟨o2,s2,n2,l2⟩⟩:=c
  have hu:(places.map encPl)[i]? =some (.agg [.int .i64 o1,.str s1,lst n1 l1,.int .i64 o2,.str s2,lst n2 l2]):=getmap (f:=encPl) hc
  have hok:=hls _ (List.mem_of_getElem? hc)
  rw [z3K hc] at ha
  simp only [lerr] at ha
  have k1:=fun H=>c39 (.mk o1 s1 n1 l1) hok.1 H
  have k2:=fun H=>c39 (.mk o2 s2 n2 l2) hok.2 H
  simp only [z0U] at k1 k2
  generalize vexpr (.mk o1 s1 n1 l1)=v1 at *
  generalize vexpr (.mk o2 s2 n2 l2)=v2 at *
  refine z0G ?_
  refine z1J (n:=0) (ws:=[.int .i64 o1,.str s1,lst n1 l1,.int .i64 o2,.str s2,lst n2 l2]) rfl rfl rfl rfl rfl all_Pl rfl ?_
  refine z0G ?_
  refine z3J (out:=[.int .i64 o1,.str s1,lst n1 l1,.int .i64 o2,.str s2,lst n2 l2]) rfl rfl rfl ?_
  refine z0G ?_
  refine z5H (fun al H'=>al=[(1,.ptr (H.length+0) 0),(70,encLs ln places),(71,.int .i64 (places.map encPl).length),(72,.int .i64 i),(80,.sl (H1.length+1) 0 2 3),(81,.int .i64 (2:Nat)),(82,.int .i64 (0:Nat))] ∧
    H'=H1++[.cells [.int .i64 o1,.str s1,lst n1 l1,.int .i64 o2,.str s2,lst n2 l2],.cells [.int .i64 o1,.str s1,lst n1 l1,.int .i64 o2,.str s2,lst n2 l2]])
   (fun al H'=>al=[(1,.ptr (H.length+0) 0),(70,encLs ln places),(71,.int .i64 (places.map encPl).length),(72,.int .i64 i),(80,.sl (H1.length+1) 0 2 3),(81,.int .i64 (2:Nat)),(82,.int .i64 (1:Nat))] ∧
    H'=H1++[.cells [.int .i64 o1,.str s1,lst n1 l1,.int .i64 o2,.str s2,lst n2 l2],.cells [.int .i64 o1,.str s1,lst n1 l1,.int .i64 o2,.str s2,lst n2 l2],.cells [.int .i64 o1,.str s1,lst n1 l1]]∧v1=0)
   (fun al H'=>al=[(1,.ptr (H.length+0) 0),(70,encLs ln places),(71,.int .i64 (places.map encPl).length),(72,.int .i64 i),(80,.sl (H1.length+1) 0 2 3),(81,.int .i64 (2:Nat)),(82,.int .i64 (2:Nat))] ∧
    (∃ G,H'=H1++G)∧v1=0∧v2=0) ⟨rfl,rfl⟩ ?_ ?_ ?_
  ·rintro _ _ ⟨rfl,rfl⟩
   refine z0G ?_
   refine z0F rfl (k1 _) ?_
   refine z0G ?_
   refine z0T _ rfl ?_ ?_<;>intro h1
   ·rw [ha,if_pos h1,if_pos h1]
    refine z0G ?_
    exact z1G rfl (z0M (hx.app _) (Plain.int _ _))
   ·refine z0G ?_
    exact ⟨rfl,rfl,by simpa using h1⟩
  ·rintro _ _ ⟨rfl,rfl,h0⟩
   refine z0G ?_
   refine z0F rfl (k2 _) ?_
   refine z0G ?_
   refine z0T _ rfl ?_ ?_<;>intro h1
   ·rw [ha,h0,if_neg (by simp),if_pos h1,if_pos h1]
    refine z0G ?_
    exact z1G rfl (z0M (hx.app _) (Plain.int _ _))
   ·refine z0G ?_
    exact ⟨rfl,⟨_,rfl⟩,h0,by simpa using h1⟩
  ·rintro _ _ ⟨rfl,⟨G,rfl⟩,h0,h1⟩
   refine z0G ?_
   exact ⟨by omega,rfl,hx.app _,z0H hb,by rw [ha,h0,h1];rfl⟩
 simp only [decide_eq_false_iff_not] at hc
 have:i=places.length:=by omega
 subst this
 rw [List.drop_length] at ha
 rw [ha]
 clear hc hi
 have hm:∀ b,formR ⟨kind,pn,pairs,ln,places,below⟩=b→(decide (kind<0)||decide (kind>3)||((pairs.length:Int)==0)||(below&&decide (kind<2))||twice pairs)=b:=fun b h=>h
 refine z0G ?_
 refine vv_cutE [(1,.ptr (H.length+0) 0),(120,.bool (formR ⟨kind,pn,pairs,ln,places,below⟩))] (fun h=>Ext H h∧h[H.length+0]? =some (.cells [.int .i64 kind,encPs pn pairs,encLs ln places,.bool below])) ?_ ?_
 ·have k40:=fun H=>c40 hsp hnp hps H
  have hf:∀ b,(decide (kind<0)||decide (kind>3)||((pairs.length:Int)==0)||(below&&decide (kind<2))||twice pairs)=b→formR ⟨kind,pn,pairs,ln,places,below⟩=b:=fun b h=>h
  have hfin:decide (kind<0)=false→decide (kind>3)=false→((pairs.length:Int)==0)=false→(below&&decide (kind<2))=false→formR ⟨kind,pn,pairs,ln,places,below⟩=twice pairs:=by
   intro a b c d;exact hf _ (by rw [a,b,c,d];simp)
  cases h2:decide (kind<0)
  ·refine z0G ?_
   cases h3:decide (kind>3)
   ·refine z0G ?_
    rw [e3]
    cases h4:((pairs.length:Int)==0)
    ·refine z0G ?_
     cases below
     ·rw [hfin h2 h3 h4 rfl]
      refine z0G ?_
      refine z0F rfl (k40 _) ?_
      refine z0G ?_
      exact z5J rfl ⟨hx.app _,z0H hb⟩
     ·refine z0G ?_
      cases h5:decide (kind<2)
      ·rw [hfin h2 h3 h4 h5]
       refine z0G ?_
       refine z0F rfl (k40 _) ?_
       refine z0G ?_
       exact z5J rfl ⟨hx.app _,z0H hb⟩
      ·rw [hf true (by rw [h5];simp)]
       refine z0G ?_
       exact z5J rfl ⟨hx.app _,z0H hb⟩
    ·rw [hf true (by rw [h4];simp)]
     refine z0G ?_
     exact z5J rfl ⟨hx.app _,z0H hb⟩
   ·rw [hf true (by rw [h3];simp)]
    refine z0G ?_
    exact z5J rfl ⟨hx.app _,z0H hb⟩
  ·rw [hf true (by rw [h2];rfl)]
   refine z0G ?_
   exact z5J rfl ⟨hx.app _,z0H hb⟩
 clear hx hb ha H1
 rintro H1 ⟨hx,hb⟩
 refine nx_n ?_
 refine z0T _ rfl ?_ ?_<;>intro hfo
 ·rw [hfo]
  refine z0G ?_
  exact z1G rfl (z0M hx (Plain.int _ _))
 rw [hfo]
 refine z0G ?_
 refine z1B places.length (fun i al H'=>al=[(122,encLs ln places),(123,.int .i64 (places.map encPl).length),(124,.int .i64 i)]∧Ext H H'∧(places.take i).any oddPl=false) ⟨rfl,hx,by simp⟩ ?_
 clear hx hb H1
 rintro i _ H1 hi ⟨rfl,hx,ha⟩
 refine wi_nil ?_
 refine z0G ?_
 refine z0T _ rfl ?_ ?_<;>intro hc
 ·simp only [decide_eq_true_eq] at hc
  obtain ⟨c,hc⟩:=z1E (l:=places) (i:=i) (by omega)
  have ht:=z2H (p:=oddPl) hc
  have hany:=z3U (p:=oddPl) hc
  have hok:=hls _ (List.mem_of_getElem? hc)
  have k1:=fun H=>c41 c.1 hok.1 H
  have k2:=fun H=>c41 c.2 hok.2 H
  have ho:oddPl c=(c.1.odd||c.2.odd):=rfl
  generalize oddPl c=q at *
  generalize c.1.odd=q1 at *
  generalize c.2.odd=q2 at *
  obtain ⟨⟨o1,s1,n1,l1⟩,⟨o2,s2,n2,l2⟩⟩:=c
  have hu:(places.map encPl)[i]? =some (.agg [.int .i64 o1,.str s1,lst n1 l1,.int .i64 o2,.str s2,lst n2 l2]):=getmap (f:=encPl) hc
  simp only [z0U] at k1 k2
  refine z0G ?_
  refine z1J (n:=0) (ws:=[.int .i64 o1,.str s1,lst n1 l1,.int .i64 o2,.str s2,lst n2 l2]) rfl rfl rfl rfl rfl all_Pl rfl ?_
  refine z0G ?_
  refine z0F rfl (k1 _) ?_
  refine z0G ?_
  cases q1
  ·refine z0G ?_
   refine z0F rfl (k2 _) ?_
   refine z0G ?_
   cases q2
   ·refine z0G ?_
    exact ⟨by omega,rfl,hx.app _,by rw [ht,ha,ho];rfl⟩
   ·rw [hany ho]
    refine z0G ?_
    exact z1G rfl (z0M (hx.app _) (Plain.int _ _))
  ·rw [hany ho]
   refine z0G ?_
   exact z1G rfl (z0M (hx.app _) (Plain.int _ _))
 simp only [decide_eq_false_iff_not] at hc
 have:i=places.length:=by omega
 subst this
 rw [List.take_length] at ha
 rw [ha]
 refine z0G ?_
 exact z1G rfl (z0M (hx.app _) (Plain.int _ _))
set_option maxHeartbeats 4000000
def entsF:Nat→List (List UInt8)→Ents
 | _,[]=>[]
 | n,k::ks=>(.str k,.bool true,n)::entsF (n+1) ks
def MB (ks:List (List UInt8)):Blk:=.map (entsF 0 ks) ks.length
theorem set_self {H:Heap} {M:Nat} {b:Blk} (h:H[M]? =some b):H.set M b=H:=by
 apply List.ext_getElem?
 intro i
 rw [List.getElem?_set]
 by_cases e:M=i
 ·subst e;rw [if_pos rfl,h,if_pos (List.getElem?_eq_some_iff.1 h).1]
 ·rw [if_neg e]
section steps
variable {P:Program} {H G:Heap} {al:AL} {K:KL} {Qp:AL→AV→Heap→Prop} {os:List IOper} {x y:Arg}
end steps
def Upd (H:Heap) (M:Nat) (ks:List (List UInt8)) (H':Heap):Prop:=M<H.length∧∃ G,H'=H.set M (MB ks)++G
theorem Upd.refl {H:Heap} {M:Nat} {ks:List (List UInt8)} (h:H[M]? =some (MB ks)):Upd H M ks H:=⟨(List.getElem?_eq_some_iff.1 h).1,[],by rw [set_self h,List.append_nil]⟩
theorem Upd.app {H H':Heap} {M:Nat} {ks:List (List UInt8)} (h:Upd H M ks H') (G:Heap):Upd H M ks (H'++G):=by obtain ⟨h0,G',rfl⟩:=h;exact ⟨h0,G'++G,by rw [List.append_assoc]⟩
theorem Upd.set {H H':Heap} {M:Nat} {ks ks2:List (List UInt8)} (h:Upd H M ks H'):Upd H M ks2 (H'.set M (MB ks2)):=by
 obtain ⟨h0,G',rfl⟩:=h
 exact ⟨h0,G',by rw [List.set_append_left _ _ (by simpa using h0),List.set_set]⟩
theorem Upd.get {H H':Heap} {M:Nat} {ks:List (List UInt8)} (h:Upd H M ks H'):H'[M]? =some (MB ks):=by
 obtain ⟨h0,G',rfl⟩:=h
 rw [List.getElem?_append_left (by simpa using h0),List.getElem?_set,if_pos rfl,if_pos h0]
theorem Upd.old {H H':Heap} {M id:Nat} {ks:List (List UInt8)} {b:Blk} (h:Upd H M ks H') (hne:id≠M) (hg:H[id]? =some b):H'[id]? =some b:=by
 obtain ⟨h0,G',rfl⟩:=h
 have:=(List.getElem?_eq_some_iff.1 hg).1
 rw [List.getElem?_append_left (by simpa using this),List.getElem?_set,if_neg (fun e=>hne e.symm)];exact hg
theorem Upd.trans {H H1 H2:Heap} {M:Nat} {ks ks2:List (List UInt8)} (h:Upd H M ks H1) (k:Upd H1 M ks2 H2):Upd H M ks2 H2:=by
 obtain ⟨h0,G,rfl⟩:=h
 obtain ⟨_,G2,rfl⟩:=k
 exact ⟨h0,G++G2,by rw [List.set_append_left _ _ (by simpa using h0),List.set_set,List.append_assoc]⟩
theorem flat_strs (l:List (List UInt8)):flat (l.map AV.str)=l.map AV.str:=by
 induction l with
 | nil=>rfl
 | cons a l ih=>show [AV.str a]++flat (l.map AV.str)=_;rw [ih];rfl
theorem srcOf_W (w:Wd) (H:Heap):srcOf 1 H (encW w)=some (w.l.length,w.l.map .str):=by
 obtain ⟨nl,l⟩:=w
 unfold encW
 split
 ·rename_i h
  simp only [Bool.and_eq_true,List.isEmpty_iff] at h
  obtain ⟨_,rfl⟩:=h;rfl
 ·simp only [srcOf,if_true,List.length_map,flat_strs]
theorem all_strs (l:List (List UInt8)):(l.map AV.str).all AV.scalar=true:=by
 rw [List.all_eq_true];intro x hx;obtain ⟨s,_,rfl⟩:=List.mem_map.1 hx;rfl
theorem plain_W (w:Wd):Plain (encW w):=by
 unfold encW;split
 ·exact Plain.nilslice
 ·exact Plain.list _ fun x hx=>by obtain ⟨s,_,rfl⟩:=List.mem_map.1 hx;exact Plain.str s
section steps
variable {P:Program} {H G:Heap} {al:AL} {K:KL} {Qp:AL→AV→Heap→Prop} {os:List IOper} {d:Nat} {x y:Arg}
end steps
set_option maxHeartbeats 8000000
theorem Upd.base {H G H':Heap} {M:Nat} {ks:List (List UInt8)} (h:Upd (H++G) M ks H') (hM:M<H.length):Upd H M ks H':=by
 obtain ⟨_,G',rfl⟩:=h
 exact ⟨hM,G++G',by rw [List.set_append_left _ _ hM,List.append_assoc]⟩
theorem z1U {α:Type} {l:List α} {i:Nat} {c:α} (h:l[i]? =some c):l.take (i+1)=l.take i++[c]:=by
 rw [List.take_add_one,h];rfl
end Go.Ab
