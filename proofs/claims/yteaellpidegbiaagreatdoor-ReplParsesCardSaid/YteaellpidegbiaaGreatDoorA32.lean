/- Part 32 of the proof. -/
import Derived.Test.YteaellpidegbiaaGreatDoorA31
set_option linter.unusedVariables false
set_option linter.unusedSimpArgs false
namespace Go.Ab
open Go
set_option maxRecDepth 100000
set_option maxHeartbeats 8000000
def formR2 (r:Ru):Bool:=decide (r.kind<0)||decide (r.kind>3)||((r.pairs.length:Int)==0)||(r.below&&(r.kind != 2)&&(r.kind != 3))
def vrule2 (r:Ru):Int :=
 if decide ((r.pairs.length:Int)>24)||decide ((r.places.length:Int)>24) then 3 else if r.pairs.any longP then 3 else
 if perr r.pairs != 0 then perr r.pairs else if lerr vexpr2 r.places != 0 then lerr vexpr2 r.places else if formR2 r then 1 else if r.places.any oddPl then 1 else if twice r.pairs then 1 else 0
theorem c16 (r:Ru) (hr:okR r) (H:Heap):ACall PP 16 [encR r] H (Just H (.int .i64 (vrule2 r))):=by
 obtain ⟨kind,pn,pairs,ln,places,below⟩:=r
 obtain ⟨hnp,hnl,hps,hls⟩:=hr
 simp only at hnp hnl hps hls
 have hsp:=sl_Ps pn pairs
 have hsl:=sl_Ls ln places
 have hlp:(pairs.map encP).length=pairs.length:=List.length_map _
 have hll:(places.map encPl).length=places.length:=List.length_map _
 have e1:∀ k:Int,decide (((pairs.map encP).length:Int)>k)=decide ((pairs.length:Int)>k):=fun k=>by rw [hlp]
 have e2:∀ k:Int,decide (((places.map encPl).length:Int)>k)=decide ((places.length:Int)>k):=fun k=>by rw [hll]
 have e3:(((pairs.map encP).length:Int)==0)=((pairs.length:Int)==0):=by rw [hlp]
 have hv:vrule2 ⟨kind,pn,pairs,ln,places,below⟩=if decide ((pairs.length:Int)>24)||decide ((places.length:Int)>24) then 3 else if pairs.any longP then 3 else
   if perr pairs != 0 then perr pairs else if lerr vexpr2 places != 0 then lerr vexpr2 places else if formR2 ⟨kind,pn,pairs,ln,places,below⟩ then 1 else if places.any oddPl then 1 else if twice pairs then 1 else 0:=rfl
 refine ACall.gives (is16.c1 z0V mixed rfl ?_)
 unfold encR
 rw [hv]
 refine z0J ?_
 rw [e1]
 refine z1Y [(1,.ptr (H.length+0) 0),(22,.bool (decide ((pairs.length:Int)>24)||decide ((places.length:Int)>24)))] (H++[.cells [.int .i64 kind,encPs pn pairs,encLs ln places,.bool below]]) ?_ ?_
 ·cases h1:decide ((pairs.length:Int)>24)
  ·refine z0J ?_
   rw [e2]
   refine z0J ?_
   exact z0S rfl rfl
  ·refine z0J ?_
   exact z0S rfl rfl
 refine nx_n ?_
 refine z0W _ rfl ?_ ?_<;>intro h1
 ·rw [h1]
  refine z0J ?_
  exact fr
 rw [h1]
 refine z0J ?_
 refine z1F pairs.length (fun i al H'=>al=[(1,.ptr (H.length+0) 0),(3,.int .i64 i)]∧Ext H H' ∧
  H'[H.length+0]? =some (.cells [.int .i64 kind,encPs pn pairs,encLs ln places,.bool below])∧(pairs.take i).any longP=false) ⟨rfl,⟨_,rfl⟩,hp_new,by simp⟩ ?_
 rintro i _ H1 hi ⟨rfl,hx,hb,ha⟩
 refine z0J ?_
 refine z0W _ rfl ?_ ?_<;>intro hc
 ·simp only [decide_eq_true_eq] at hc
  obtain ⟨c,hc⟩:=z1D (l:=pairs) (i:=i) (by omega)
  have hu:(pairs.map encP)[i]? =some (.agg [encW c.a,encW c.b]):=getmap (f:=encP) hc
  have ht:=z1P (p:=longP) hc
  have hany:=z2R (p:=longP) hc
  have s1:=sl_W c.a
  have s2:=sl_W c.b
  have l1:∀ k:Int,decide (((c.a.l.map AV.str).length:Int)>k)=decide ((c.a.l.length:Int)>k):=fun k=>by rw [List.length_map]
  have l2:∀ k:Int,decide (((c.b.l.map AV.str).length:Int)>k)=decide ((c.b.l.length:Int)>k):=fun k=>by rw [List.length_map]
  refine z0J ?_
  rw [l1]
  cases h2:decide ((c.a.l.length:Int)>6)
  ·refine z0J ?_
   rw [l2]
   cases h3:decide ((c.b.l.length:Int)>60)
   ·refine z0J ?_
    exact ⟨by omega,rfl,hx,hb,by rw [ht,ha];simp only [longP,h2,h3];rfl⟩
   ·rw [hany (by simp only [longP,h2,h3];rfl)]
    refine z0J ?_
    exact z1G rfl (z0N hx (Plain.int _ _))
  ·rw [hany (by simp only [longP,h2];rfl)]
   refine z0J ?_
   exact z1G rfl (z0N hx (Plain.int _ _))
 simp only [decide_eq_false_iff_not] at hc
 have:i=pairs.length:=by omega
 subst this
 rw [List.take_length] at ha
 rw [ha]
 clear hc hi ha
 refine z0J ?_
 refine z1F pairs.length (fun i al H'=>al=[(1,.ptr (H.length+0) 0),(4,.int .i64 i)]∧Ext H H' ∧
  H'[H.length+0]? =some (.cells [.int .i64 kind,encPs pn pairs,encLs ln places,.bool below])∧perr pairs=perr (pairs.drop i)) ⟨rfl,hx,hb,rfl⟩ ?_
 clear hx hb H1
 rintro i _ H1 hi ⟨rfl,hx,hb,ha⟩
 refine z0J ?_
 refine z0W _ rfl ?_ ?_<;>intro hc
 ·simp only [decide_eq_true_eq] at hc
  obtain ⟨c,hc⟩:=z1D (l:=pairs) (i:=i) (by omega)
  have hu:(pairs.map encP)[i]? =some (.agg [encW c.a,encW c.b]):=getmap (f:=encP) hc
  have hok:=hps c (List.mem_of_getElem? hc)
  rw [z4H hc] at ha
  simp only [perr] at ha
  have k1:=fun H=>c42 (sl_W c.a) hok.1 H
  have k2:=fun H=>c42 (sl_W c.b) hok.2 H
  generalize vword c.a.l=v1 at *
  generalize vword c.b.l=v2 at *
  refine z0J ?_
  refine z0G rfl (k1 _) ?_
  refine z0J ?_
  refine z0W _ rfl ?_ ?_<;>intro h1
  ·rw [ha,if_pos h1,if_pos h1]
   refine z0J ?_
   exact z1G rfl (z0N hx (Plain.int _ _))
  rw [if_neg (by simpa using h1)] at ha
  refine z0J ?_
  refine z0G rfl (k2 _) ?_
  refine z0J ?_
  refine z0W _ rfl ?_ ?_<;>intro h2
  ·rw [ha,if_pos h2,if_pos h2]
   refine z0J ?_
   exact z1G rfl (z0N hx (Plain.int _ _))
  rw [if_neg (by simpa using h2)] at ha
  refine z0J ?_
  exact ⟨by omega,rfl,hx,hb,ha⟩
 simp only [decide_eq_false_iff_not] at hc
 have:i=pairs.length:=by omega
 subst this
 rw [List.drop_length] at ha
 rw [ha]
 clear hc hi ha
 refine z0J ?_
 refine z1F places.length (fun i al H'=>al=[(1,.ptr (H.length+0) 0),(7,.int .i64 i)]∧Ext H H' ∧
  H'[H.length+0]? =some (.cells [.int .i64 kind,encPs pn pairs,encLs ln places,.bool below])∧lerr vexpr2 places=lerr vexpr2 (places.drop i)) ⟨rfl,hx,hb,rfl⟩ ?_
 clear hx hb H1
 rintro i _ H1 hi ⟨rfl,hx,hb,ha⟩
 refine z0J ?_
 refine z0W _ rfl ?_ ?_<;>intro hc
 ·simp only [decide_eq_true_eq] at hc
  obtain ⟨c,hc⟩:=z1D (l:=places) (i:=i) (by omega)
  obtain ⟨⟨o1,s1,n1,l1⟩,⟨o2,s2,n2,l2⟩⟩:=c
  have hu:(places.map encPl)[i]? =some (.agg [.int .i64 o1,.str s1,lst n1 l1,.int .i64 o2,.str s2,lst n2 l2]):=getmap (f:=encPl) hc
  have hok:=hls _ (List.mem_of_getElem? hc)
  rw [z4H hc] at ha
  simp only [lerr] at ha
  have k1:=fun H=>c43 (.mk o1 s1 n1 l1) hok.1 H
  have k2:=fun H=>c43 (.mk o2 s2 n2 l2) hok.2 H
  simp only [z0X] at k1 k2
  generalize vexpr2 (.mk o1 s1 n1 l1)=v1 at *
  generalize vexpr2 (.mk o2 s2 n2 l2)=v2 at *
  refine z0J ?_
  refine z0G rfl (k1 _) ?_
  refine z0J ?_
  refine z0W _ rfl ?_ ?_<;>intro h1
  ·rw [ha,if_pos h1,if_pos h1]
   refine z0J ?_
   exact z1G rfl (z0N hx (Plain.int _ _))
  rw [if_neg (by simpa using h1)] at ha
  refine z0J ?_
  refine z0G rfl (k2 _) ?_
  refine z0J ?_
  refine z0W _ rfl ?_ ?_<;>intro h2
  ·rw [ha,if_pos h2,if_pos h2]
   refine z0J ?_
   exact z1G rfl (z0N hx (Plain.int _ _))
  rw [if_neg (by simpa using h2)] at ha
  refine z0J ?_
  exact ⟨by omega,rfl,hx,hb,ha⟩
 simp only [decide_eq_false_iff_not] at hc
 have:i=places.length:=by omega
 subst this
 rw [List.drop_length] at ha
 rw [ha]
 clear hc hi ha
 refine z0J ?_
 refine vv_cutE [(1,.ptr (H.length+0) 0),(129,.bool (formR2 ⟨kind,pn,pairs,ln,places,below⟩))] (fun h=>Ext H h∧h[H.length+0]? =some (.cells [.int .i64 kind,encPs pn pairs,encLs ln places,.bool below])) ?_ ?_
 ·have hf:∀ b,(decide (kind<0)||decide (kind>3)||((pairs.length:Int)==0)||(below&&(kind != 2)&&(kind != 3)))=b→formR2 ⟨kind,pn,pairs,ln,places,below⟩=b:=fun b h=>h
  cases h2:decide (kind<0)
  ·refine z0J ?_
   cases h3:decide (kind>3)
   ·refine z0J ?_
    rw [e3]
    cases h4:((pairs.length:Int)==0)
    ·refine z0J ?_
     cases below
     ·rw [hf false (by rw [h2,h3,h4];rfl)]
      refine z0J ?_
      exact z2E rfl ⟨hx,hb⟩
     ·refine z0J ?_
      cases h5:(kind != 2)
      ·rw [hf false (by rw [h2,h3,h4,h5];rfl)]
       refine z0J ?_
       exact z2E rfl ⟨hx,hb⟩
      ·rw [hf (kind != 3) (by rw [h2,h3,h4,h5];simp)]
       refine z0J ?_
       exact z2E rfl ⟨hx,hb⟩
    ·rw [hf true (by rw [h4];simp)]
     refine z0J ?_
     exact z2E rfl ⟨hx,hb⟩
   ·rw [hf true (by rw [h3];simp)]
    refine z0J ?_
    exact z2E rfl ⟨hx,hb⟩
  ·rw [hf true (by rw [h2];rfl)]
   refine z0J ?_
   exact z2E rfl ⟨hx,hb⟩
 clear hx hb H1
 rintro H1 ⟨hx,hb⟩
 refine nx_n ?_
 refine z0W _ rfl ?_ ?_<;>intro hfo
 ·rw [hfo]
  refine z0J ?_
  exact z1G rfl (z0N hx (Plain.int _ _))
 rw [hfo]
 refine z0J ?_
 refine z1F places.length (fun i al H'=>al=[(1,.ptr (H.length+0) 0),(10,.int .i64 i)]∧Ext H H' ∧
  H'[H.length+0]? =some (.cells [.int .i64 kind,encPs pn pairs,encLs ln places,.bool below])∧(places.take i).any oddPl=false) ⟨rfl,hx,hb,by simp⟩ ?_
 clear hx hb H1
 rintro i _ H1 hi ⟨rfl,hx,hb,ha⟩
 refine z0J ?_
 refine z0W _ rfl ?_ ?_<;>intro hc
 ·simp only [decide_eq_true_eq] at hc
  obtain ⟨c,hc⟩:=z1D (l:=places) (i:=i) (by omega)
  have ht:=z1P (p:=oddPl) hc
  have hany:=z2R (p:=oddPl) hc
  have hok:=hls _ (List.mem_of_getElem? hc)
  have k1:=fun H=>c44 c.1 hok.1 H
  have k2:=fun H=>c44 c.2 hok.2 H
  have ho:oddPl c=(c.1.odd||c.2.odd):=rfl
  generalize oddPl c=q at *
  generalize c.1.odd=q1 at *
  generalize c.2.odd=q2 at *
  obtain ⟨⟨o1,s1,n1,l1⟩,⟨o2,s2,n2,l2⟩⟩:=c
  have hu:(places.map encPl)[i]? =some (.agg [.int .i64 o1,.str s1,lst n1 l1,.int .i64 o2,.str s2,lst n2 l2]):=getmap (f:=encPl) hc
  simp only [z0X] at k1 k2
  refine z0J ?_
  refine z0G rfl (k1 _) ?_
  refine z0J ?_
  cases q1
  ·refine z0J ?_
   refine z0G rfl (k2 _) ?_
   refine z0J ?_
   cases q2
   ·refine z0J ?_
    exact ⟨by omega,rfl,hx,hb,by rw [ht,ha,ho];rfl⟩
   ·rw [hany ho]
    refine z0J ?_
    exact z1G rfl (z0N hx (Plain.int _ _))
  ·rw [hany ho]
   refine z0J ?_
   exact z1G rfl (z0N hx (Plain.int _ _))
 simp only [decide_eq_false_iff_not] at hc
 have:i=places.length:=by omega
 subst this
 rw [List.take_length] at ha
 rw [ha]
 clear hc hi ha
 refine z0J ?_
 refine z1F pairs.length (fun i al H'=>al=[(1,.ptr (H.length+0) 0),(11,.int .i64 i)]∧Ext H H' ∧
  H'[H.length+0]? =some (.cells [.int .i64 kind,encPs pn pairs,encLs ln places,.bool below])∧∀ k,k<i→twiceAt pairs k=false) ⟨rfl,hx,hb,by omega⟩ ?_
 clear hx hb H1
 rintro i _ H1 hi ⟨rfl,hx,hb,ha⟩
 refine z0J ?_
 refine z0W _ rfl ?_ ?_<;>intro hc
 ·simp only [decide_eq_true_eq] at hc
  obtain ⟨c,hc⟩:=z1D (l:=pairs) (i:=i) (by omega)
  have hm:=List.mem_of_getElem? hc
  have hu:(pairs.map encP)[i]? =some (.agg [encW c.a,encW c.b]):=getmap (f:=encP) hc
  have hok:=hps c hm
  have ht:twiceAt pairs i=((c.a.l==[])||(pairs.take i).any (sameP c)):=by simp only [twiceAt,hc]
  have htw:twiceAt pairs i=true→twice pairs=true:=fun h=>List.any_eq_true.2 ⟨i,List.mem_range.2 (by omega),h⟩
  have e0:(((c.a.l.map AV.str).length:Int)==0)=(c.a.l==[]):=by
   cases c.a.l<;>simp
   omega
  have hsW:=sl_W c.a
  refine z0J ?_
  rw [e0]
  refine z0W _ rfl ?_ ?_<;>intro h1
  ·rw [htw (by rw [ht,h1];rfl)]
   refine z0J ?_
   exact z1G rfl (z0N hx (Plain.int _ _))
  refine z0J ?_
  refine z1F i (fun k al H'=>al=[(1,.ptr (H.length+0) 0),(11,.int .i64 i),(12,.int .i64 k)]∧Ext H H' ∧
   H'[H.length+0]? =some (.cells [.int .i64 kind,encPs pn pairs,encLs ln places,.bool below])∧(pairs.take k).any (sameP c)=false) ⟨rfl,hx,hb,by simp⟩ ?_
  clear hx hb H1
  rintro k _ H1 hk ⟨rfl,hx,hb,hs⟩
  refine z0J ?_
  refine z0W _ rfl ?_ ?_<;>intro hck
  ·simp only [decide_eq_true_eq] at hck
   obtain ⟨q,hq⟩:=z1D (l:=pairs) (i:=k) (by omega)
   have hqu:(pairs.map encP)[k]? =some (.agg [encW q.a,encW q.b]):=getmap (f:=encP) hq
   have htk:=z1P (p:=sameP c) hq
   have hin:sameP c q=true→(pairs.take i).any (sameP c)=true:=by
    intro h
    refine List.any_eq_true.2 ⟨q,?_,h⟩
    rw [List.mem_iff_getElem?]
    exact ⟨k,by rw [List.getElem?_take_of_lt (by omega)];exact hq⟩
   have k1:=fun H=>c17 (sl_W c.a) (sl_W q.a) hok.1.1 H
   have k2:=fun H=>c17 (sl_W c.b) (sl_W q.b) hok.2.1 H
   have hsd:sameP c q=((c.a.l==q.a.l)&&(c.b.l==q.b.l)):=rfl
   generalize (c.a.l==q.a.l)=b1 at *
   generalize (c.b.l==q.b.l)=b2 at *
   generalize sameP c q=b at *
   refine z0J ?_
   refine z0G rfl (k1 _) ?_
   refine z0J ?_
   cases b1
   ·refine z0J ?_
    exact ⟨by omega,rfl,hx,hb,by rw [htk,hs,hsd];rfl⟩
   ·refine z0J ?_
    refine z0G rfl (k2 _) ?_
    refine z0J ?_
    cases b2
    ·refine z0J ?_
     exact ⟨by omega,rfl,hx,hb,by rw [htk,hs,hsd];rfl⟩
    ·rw [htw (by rw [ht,hin hsd];simp)]
     refine z0J ?_
     exact z1G rfl (z0N hx (Plain.int _ _))
  ·simp only [decide_eq_false_iff_not] at hck
   have:k=i:=by omega
   subst this
   refine z0J ?_
   refine ⟨by omega,rfl,hx,hb,?_⟩
   intro j hj
   rcases Nat.lt_succ_iff_lt_or_eq.1 hj with h | h
   ·exact ha j h
   ·subst h;rw [ht,h1,hs];rfl
 simp only [decide_eq_false_iff_not] at hc
 have:twice pairs=false:=by
  rw [twice,List.any_eq_false];intro k hk;rw [ha k (by have:=List.mem_range.1 hk;omega)];simp
 rw [this]
 refine z0J ?_
 exact z1G rfl (z0N hx (Plain.int _ _))
end Go.Ab
