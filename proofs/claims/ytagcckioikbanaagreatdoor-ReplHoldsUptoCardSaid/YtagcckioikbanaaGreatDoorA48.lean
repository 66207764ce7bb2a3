/- Part 48 of the proof. -/
import Derived.Test.YtagcckioikbanaaGreatDoorA40
set_option linter.unusedVariables false
set_option linter.unusedSimpArgs false
namespace Go.Ab
open Go
set_option maxRecDepth 100000
set_option maxHeartbeats 16000000
theorem a27 {sv:AV} {sg:List Bt} {r:Ru} (hsv:Sl 1 sv (sg.map .str)) (hsg:zDV sg) (hsn:sg.length≤256) (hr:RuOk sg r) (H:z0B) :
  z0C PP 19 [z6F r,sv] H (zLn (fun v H'=>(∀ (j:Nat) (b:Blk),H[j]? =some b→H'[j]? =some b)∧∃ pv av bv cs ds aid mid,LookV (DT (zEf sg (z0a r))) aid mid H' v pv av bv (r.pairs.map (z2G sg)) cs ds (z5T sg (z0a r)) (z2J sg (z0a r))∧z0m (DT (zEf sg (z0a r))) mid H' H'∧H.length≤mid) (fun _ _=>False)):=by
 have k60:=a60 r (by have:=hr.nl;omega)
 obtain ⟨kind,pn,pairs,ln,places,below⟩:=r
 have hpn:=hr.np
 have hpa:=hr.pa
 have hne:=hr.ne
 simp only at hpn hpa hne
 generalize hL:z0a ⟨kind,pn,pairs,ln,places,below⟩=L at *
 have hLn:0<L.length∧L.length≤1000:=by
  rw [←hL]
  unfold z0a
  have:=hr.nl
  simp only at this ⊢
  cases places with
  | nil=>simp
  | cons a b=>simpa using this
 have hsz:=hr.sz
 have hok:=hr.ok
 have hform:=hr.form
 rw [hL] at hsz hok hform
 obtain ⟨hs1,hs2,hs3⟩:=zZG hsv
 refine z0C.sealed (n:=H.length) ?_
 refine is19.c2 z0P mixed rfl ?_
 rw [lAJ]
 unfold z6F at k60 ⊢
 refine z1E (z0V ?_)
 refine z0y (.agg [.int .i64 kind,z0T pn pairs,z0U ln places,.bool below]) rfl (by simp only [AV.shaped,z1n,z1p];first | done | rfl) ?_
 refine z0y sv rfl hs1 ?_
 rw [hs2]
 have x2:(H++[Blk.cells [.int .i64 kind,z0T pn pairs,z0U ln places,.bool below]]++[.cells [sv]])[H.length]? =some (.cells [.int .i64 kind,z0T pn pairs,z0U ln places,.bool below]):=z0G z0E
 have hl3:(H++[Blk.cells [.int .i64 kind,z0T pn pairs,z0U ln places,.bool below]]:z0B).length=H.length+1:=by simp
 have x3:(H++[Blk.cells [.int .i64 kind,z0T pn pairs,z0U ln places,.bool below]]++[.cells [sv]])[H.length+1]? =some (.cells [sv]):=by rw [←hl3];exact z0E
 have hlX:(H++[Blk.cells [.int .i64 kind,z0T pn pairs,z0U ln places,.bool below]]++[.cells [sv]]:z0B).length=H.length+2:=by simp
 have xo:∀ (j:Nat) (b:Blk),H[j]? =some b→(H++[Blk.cells [.int .i64 kind,z0T pn pairs,z0U ln places,.bool below]]++[.cells [sv]])[j]? =some b:=fun j b h=>z0G (z0G h)
 have hl3':(H++[Blk.cells (AV.agg [.int .i64 kind,z0T pn pairs,z0U ln places,.bool below]).cells]:z0B).length=H.length+1:=by simp
 rw [hl3']
 show VV _ _ _ (H++[Blk.cells [.int .i64 kind,z0T pn pairs,z0U ln places,.bool below]]++[.cells [sv]]) _ _
 generalize (H++[Blk.cells [.int .i64 kind,z0T pn pairs,z0U ln places,.bool below]]++[.cells [sv]]:z0B)=X at *
 clear hl3 hl3'
 refine z0A ?_
 refine z0s (out:=[.nilslice,.nilslice,.nilslice]) rfl rfl ?_
 refine z0y (.agg [.nilslice,.nilslice,.nilslice]) rfl rfl ?_
 have y5:(X++[Blk.cells [.nilslice,.nilslice,.nilslice]])[H.length+2]? =some (.cells [.nilslice,.nilslice,.nilslice]):=by rw [←hlX];exact z0E
 have y2:=z0G (G:=[Blk.cells [.nilslice,.nilslice,.nilslice]]) x2
 have y3:=z0G (G:=[Blk.cells [.nilslice,.nilslice,.nilslice]]) x3
 have yo:∀ (j:Nat) (b:Blk),H[j]? =some b→(X++[Blk.cells [.nilslice,.nilslice,.nilslice]])[j]? =some b:=fun j b h=>z0G (xo j b h)
 have hlY:(X++[Blk.cells [.nilslice,.nilslice,.nilslice]]:z0B).length=H.length+3:=by simp [hlX]
 rw [hlX]
 show VV _ _ _ (X++[Blk.cells [.nilslice,.nilslice,.nilslice]]) _ _
 generalize (X++[Blk.cells [.nilslice,.nilslice,.nilslice]]:z0B)=Y at *
 clear x2 x3 xo hlX X
 have hsp:=zCB pn pairs
 have hlp:(pairs.map z2e).length=pairs.length:=lAD _
 refine z0A ?_
 refine z6P (vs:=[.ptr (H.length+1) 0]) rfl ?_
 refine z0A ?_
 refine z0H pairs.length (fun i al H'=>∃ pv,al=[(2,.ptr H.length 0),(3,.ptr (H.length+1) 0),(5,.ptr (H.length+2) 0),(6,.clo (.func 43) [] [.ptr (H.length+1) 0]),(18,z0T pn pairs),(19,.int .i64 pairs.length),(20,.int .i64 i)] ∧
  (∀ (j:Nat) (b:Blk),H[j]? =some b→H'[j]? =some b)∧H'[H.length]? =some (.cells [.int .i64 kind,z0T pn pairs,z0U ln places,.bool below])∧H'[H.length+1]? =some (.cells [sv])∧H'[H.length+2]? =some (.cells [pv,.nilslice,.nilslice]) ∧
  z2h 2 (H.length+3) H' pv (((pairs.take i).map (z2G sg)).map z4k)∧H.length+3≤H'.length) ⟨_,by rw [hlp];rfl,yo,y2,y3,y5,z2h.nil,by omega⟩ ?_
 clear y2 y3 y5 yo hlY Y
 rintro i _ V hi ⟨pv,rfl,vo,v2,v3,v5,vp,vl⟩
 have e1:decide ((i:Int)<(pairs.length:Int))=decide (i<pairs.length):=by simp only [lAP];omega
 refine z0A ?_
 rw [e1]
 cases hc:decide (i<pairs.length)
 rotate_left
 ·simp only [lAE] at hc
  obtain ⟨p,hp⟩:=z0M (l:=pairs) (i:=i) hc
  have hu:(pairs.map z2e)[i]? =some (.agg [z0X p.a,z0X p.b]):=z1A (f:=z2e) hp
  obtain ⟨ha1,hb1,ha2,hb2⟩:=hpa p (lAF hp)
  have htk:((pairs.take (i+1)).map (z2G sg)).map z4k=((pairs.take i).map (z2G sg)).map z4k++[.agg [.str (p.a.l.map (mu sg)),.str (p.b.l.map (mu sg))]]:=by
   rw [lA1,hp];simp [z4k,z2G]
  have k1:=a57 (b:=H.length+1) (H:=V++[Blk.cells [z0X p.a,z0X p.b]]) (z0G v3) hs2 hsv (z6S p.a) hsg hsn (by omega) ha2
  have k2:=a57 (b:=H.length+1) (H:=V++[Blk.cells [z0X p.a,z0X p.b]]) (z0G v3) hs2 hsv (z6S p.b) hsg hsn (by omega) hb2
  refine z0A ?_
  refine z0z rfl rfl rfl rfl rfl zLe ?_
  have y8:(V++[Blk.cells [z0X p.a,z0X p.b]])[V.length]? =some (.cells [z0X p.a,z0X p.b]):=z0E
  have yo:∀ (j:Nat) (b:Blk),H[j]? =some b→(V++[Blk.cells [z0X p.a,z0X p.b]])[j]? =some b:=fun j b h=>z0G (vo j b h)
  have y2:=z0G (G:=[Blk.cells [z0X p.a,z0X p.b]]) v2
  have y3:=z0G (G:=[Blk.cells [z0X p.a,z0X p.b]]) v3
  have y5:=z0G (G:=[Blk.cells [z0X p.a,z0X p.b]]) v5
  have yp:=vp.app [Blk.cells [z0X p.a,z0X p.b]]
  have yl:(V++[Blk.cells [z0X p.a,z0X p.b]]:z0B).length=V.length+1:=by simp
  generalize (V++[Blk.cells [z0X p.a,z0X p.b]]:z0B)=Y at *
  refine z0A ?_
  refine z4N (z2D [H.length+2,V.length]) ?_
  refine z0A ?_
  refine vz_c rfl rfl (lAL _) (z3V rfl zYs.hasBody k1 (zJN ?_))
  refine z0A ?_
  refine vz_c rfl rfl (lAL _) (z3V rfl zYs.hasBody k2 (zJN ?_))
  refine z0A ?_
  refine z0s (out:=[.str (p.a.l.map (mu sg)),.str (p.b.l.map (mu sg))]) rfl rfl ?_
  refine z0A ?_
  refine zEp rfl rfl (lAL _) ?_
  refine z0S (out:=[.str (p.a.l.map (mu sg)),.str (p.b.l.map (mu sg))]) rfl ?_
  refine z1k z2M ?_
  refine zEp rfl rfl (by simp) ?_
  have hpl:(((pairs.take i).map (z2G sg)).map z4k).length≤1000:=by simp;omega
  have n8:=vp.lt (lAL V.length)
  have nlo:=fun j (hj:j<H.length+3)=>vp.ne hj
  refine zPw (v:=pv) rfl yp rfl rfl rfl (by omega) (by omega) ?_
  intro kv' H' hko hpres hlen'
  rw [←htk] at hko
  have u2:=hpres _ _ (nlo _ (by omega)) y2
  have u3:=hpres _ _ (nlo _ (by omega)) y3
  have u5:=hpres _ _ (nlo _ (by omega)) y5
  have hl8:=(lAA.1 y8).1
  refine z1k (z0c fun j hj b hb'=>?_) ?_
  ·simp only [lAV,lA7,or_false] at hj
   have hjl:j<Y.length:=by omega
   rw [lAN hjl] at hb'
   rcases hj with rfl | rfl
   ·exact hpres _ _ (nlo _ (by omega)) hb'
   ·exact hpres _ _ n8 hb'
  refine z0A ?_
  refine zRN rfl rfl rfl (by omega) ?_
  refine zPs hko.shape rfl rfl u5 ?_
  refine z4W ?_
  refine z0A ?_
  have hHl:∀ (j:Nat) (b:Blk),H[j]? =some b→j<H.length:=fun j b h=>(lAA.1 h).1
  refine ⟨hc,kv',rfl,fun j b h=>z0K (hpres j b (nlo _ (by have:=hHl j b h;omega)) (yo j b h)) (by have:=hHl j b h;omega),z0K u2 (by omega),z0K u3 (by omega),?_,hko.mono fun j b h1 h2=>z0K h2 (by omega),by simp;omega⟩
  exact lAT (lAA.1 u5).1
 ·simp only [lAC] at hc
  have:pairs.take i=pairs:=lAQ (by omega)
  rw [this] at vp
  obtain ⟨hp0,⟨h,_⟩ | ⟨pk,rfl,vp,hkp,_⟩⟩:=vp
  ·exact absurd (by simpa using h) hne
  clear hc hi e1 hpa
  have hkm:=(lAA.1 vp).1
  have hnp2:((pairs.map (z2G sg)).map z4k).length≤1000:=by simpa using hpn
  generalize hps:(pairs.map (z2G sg)).map z4k=psA at *
  refine z0A ?_
  refine z0L rfl (a59 _) ?_ ?_
  rotate_left
  ·rintro u V' ⟨hu,_⟩
   cases hu
  rintro u V' ⟨hu,rfl⟩
  cases hu
  refine z0A ?_
  refine zGw (a:=V.length+1) (o:=0) rfl rfl ?_
  have hl2:(V++[.map [] 0,CB V.length 0]:z0B).length=V.length+2:=by simp
  have y0:LH H (H.length+1) (H.length+2) pk V.length sv psA sg L 0 .nilslice .nilslice [] [] (V++[.map [] 0,CB V.length 0]++[.cells [.ptr (V.length+1) 0]]):=by
   refine ⟨fun j b h=>z0G (z0G (vo j b h)),z0G (z0G v3),z0G (z0G v5),z0G (z0G vp),z0G ?_,z0G ?_,?_,.inl ⟨rfl,rfl⟩,.inl ⟨rfl,rfl⟩,⟨rfl,fun k m h=>by simp [zBT] at h⟩,⟨rfl,fun k m h=>by simp [z6V] at h⟩,by simp⟩
   ·exact z1S (n:=0)
   ·exact z1S (n:=1)
   ·rw [←hl2];exact z0E
  have y2:=z0G (G:=[.cells [.ptr (V.length+1) 0]]) (z0G (G:=[.map [] 0,CB V.length 0]) v2)
  rw [hl2]
  generalize (V++[.map [] 0,CB V.length 0]++[.cells [.ptr (V.length+1) 0]]:z0B)=Y at *
  clear vo v2 v3 v5 vp hl2
  generalize hm:V.length=m at *
  clear hm V
  dsimp only at k60
  refine z0A ?_
  refine z0J rfl (k60 _) ?_
  have hsL:Sl 6 (.list 6 (L.map z1L)) (L.map z1L):=.list _
  have hlL:(L.map z1L).length=L.length:=lAD _
  generalize hLv:AV.list 6 (L.map z1L)=Lv at *
  refine z0A ?_
  refine z0H L.length (fun i al H'=>∃ av bv cs ds,al=[(3,.ptr (H.length+1) 0),(5,.ptr (H.length+2) 0),(9,.ptr (m+2) 0),(45,Lv),(46,.int .i64 L.length),(47,.int .i64 i)]∧LH H (H.length+1) (H.length+2) pk m sv psA sg L i av bv cs ds H') ⟨_,_,_,_,by rw [hlL];rfl,y0⟩ ?_
  clear y0 y2 Y this i
  rintro i _ W hi ⟨av,bv,cs,ds,rfl,w⟩
  have e1:decide ((i:Int)<(L.length:Int))=decide (i<L.length):=by simp only [lAP];omega
  have w3:=w.g3
  have w5:=w.g5
  have w9:=w.g9
  have wl:=w.len
  refine z0A ?_
  rw [e1]
  cases hc:decide (i<L.length)
  rotate_left
  ·simp only [lAE] at hc
   obtain ⟨p,hp⟩:=z0M (l:=L) (i:=i) hc
   obtain ⟨okl,okr,sl,sr⟩:=hok p (lAF hp)
   have hsn1:=zDC hp
   have hsz1:z0Z (z2n (L.take i))+p.1.size+p.2.size=z0Z (z2n (L.take (i+1))):=by
    rw [hsn1,zAx];simp only [z0Z];omega
   have hszl:z0Z (z2n (L.take (i+1)))≤z0Z (z2n L):=by
    have e:z2n L=z2n (L.take (i+1))++z2n (L.drop (i+1)):=by unfold z2n;rw [←lCN,lC1]
    rw [e,zAx];omega
   have hln1:=zLB (sg:=sg) hp
   have hrn1:=zHK (sg:=sg) hp
   have hncx:NCx (z0Z (z2n (L.take i))) sv sg p.1 p.2:=⟨hsv,hsg,hsn,by omega,okl,okr,sl,sr⟩
   obtain ⟨⟨op,s,nl,l⟩,op2,s2,nl2,l2⟩:=p
   have hu:(L.map z1L)[i]? =some (.agg [.int .i64 op,.str s,lst nl l,.int .i64 op2,.str s2,lst nl2 l2]):=z1A (f:=z1L) hp
   have x1:=z0e op s nl l
   have x2:=z0e op2 s2 nl2 l2
   simp only at hln1 hrn1 hsz1 hncx
   generalize hE1:Ex.mk op s nl l=E1 at *
   generalize hE2:Ex.mk op2 s2 nl2 l2=E2 at *
   refine z0A ?_
   refine z0z rfl rfl rfl rfl rfl zKN ?_
   have y11:(W++[Blk.cells [.int .i64 op,.str s,lst nl l,.int .i64 op2,.str s2,lst nl2 l2]])[W.length]? =some (.cells [.int .i64 op,.str s,lst nl l,.int .i64 op2,.str s2,lst nl2 l2]):=z0E
   have yo:∀ (j:Nat) (b:Blk),W[j]? =some b→(W++[Blk.cells [.int .i64 op,.str s,lst nl l,.int .i64 op2,.str s2,lst nl2 l2]])[j]? =some b:=fun j b h=>z0G h
   have yl:(W++[Blk.cells [.int .i64 op,.str s,lst nl l,.int .i64 op2,.str s2,lst nl2 l2]]:z0B).length=W.length+1:=by simp
   generalize (W++[Blk.cells [.int .i64 op,.str s,lst nl l,.int .i64 op2,.str s2,lst nl2 l2]]:z0B)=Y at *
   have y3:=yo _ _ w3
   have y9:=yo _ _ w9
   refine z0A ?_
   refine zNP (z2D [m+2,W.length,H.length+1]) ?_
   have r3:=z0G (G:=[.resv,.resv]) y3
   have r9:=z0G (G:=[.resv,.resv]) y9
   have r11:=z0G (G:=[.resv,.resv]) y11
   have ra:=z0G (G:=[.resv,.resv]) (yo _ _ w.ga)
   refine z0A ?_
   have hYl:W.length+1=Y.length:=yl.symm
   refine zUQ (X:=Y) (aid:=m+1) (mid:=m) (n:=z0Z (z2n (L.take i))) (sv:=sv) (sg:=sg) (L:=E1) (R:=E2) (a3:=.ptr (H.length+1) 0) (a5:=.ptr (H.length+2) 0) (a9:=.ptr (m+2) 0) (a45:=Lv) (a46:=.int .i64 L.length) (a47:=.int .i64 i) rfl rfl rfl rfl rfl rfl (fun j hj=>?_) (by omega) hncx ⟨rfl,x1.symm,rfl,rfl,x2.symm,rfl,rfl,rfl,rfl,rfl,rfl,rfl,fun e=>(by cases e),fun e=>(by cases e),fun e=>(by cases e),fun e=>(by cases e),ra,z1S (n:=0),z1S (n:=1),fun j b _ _ h=>z0G h,by simp⟩ ?_
   ·simp only [lAV,lA7,or_false] at hj
    omega
   rw [hsz1]
   intro Z za z0 z1 zo zl
   have zlo:∀ (j:Nat) (b:Blk),j≠m+1→W[j]? =some b→Z[j]? =some b:=fun j b h1 h2=>zo j b (by have:=(lAA.1 h2).1;omega) h1 (yo j b h2)
   have z5:=zlo _ _ (by omega) w5
   have zka:z1R (m+3) Z av cs:=w.ka.mono fun j b h1 h2=>zlo j b (by omega) h2
   have zkb:z1R (m+3) Z bv ds:=w.kb.mono fun j b h1 h2=>zlo j b (by omega) h2
   have zca:Clos 49 (m+2) (m+3) Z cs (zBT sg L i):=w.ca.mono fun j m h1 h2=>zlo j _ (by omega) h2
   have zcb:Clos 51 (m+2) (m+3) Z ds (z6V sg L i):=w.cb.mono fun j m h1 h2=>zlo j _ (by omega) h2
   have hcsl:cs.length≤1000:=by rw [w.ca.len];simp [zBT];omega
   have hdsl:ds.length≤1000:=by rw [w.cb.len];simp [z6V];omega
   clear r3 r9 r11 ra y3 y9 y11
   refine z0A ?_
   refine z6P (vs:=[.ptr (m+2) 0,.ptr Y.length 0]) rfl ?_
   refine z0S (out:=[.clo (.func 49) [] [.ptr (m+2) 0,.ptr Y.length 0]]) rfl ?_
   refine zAv (kv:=av) rfl zka rfl rfl zca.sc (by omega) (by omega) ?_
   intro av' Z1 hko1 hsc1 hpres1 hlen1
   obtain ⟨p1,p2,p3⟩:=zKM (b9:=m+2) (by decide) zka zca.all zkb zcb.all hpres1
   have u5:=p1 _ _ (by omega) z5
   refine z0A ?_
   refine zPr hko1.shape rfl rfl u5 ?_
   have t5:(Z1.set (H.length+2) (.cells [.sl pk 0 psA.length 2,av',bv]))[H.length+2]? =some (.cells [.sl pk 0 psA.length 2,av',bv]):=lAT (by omega)
   have tlo:∀ (j:Nat) (b:Blk),j<m+3→j≠H.length+2→Z[j]? =some b→(Z1.set (H.length+2) (.cells [.sl pk 0 psA.length 2,av',bv]))[j]? =some b:=fun j b h1 h2 h3=>z0K (p1 j b h1 h3) (fun e=>h2 e.symm)
   have tbox:∀ (j:Nat) (n:Nd),m+3≤j→Z[j]? =some (.cells [z1u n])→(Z1.set (H.length+2) (.cells [.sl pk 0 psA.length 2,av',bv]))[j]? =some (.cells [z1u n]):=fun j n h1 h2=>z0K (p2 j n h2) (by omega)
   have tka:=hko1.mono (Y:=Z1.set (H.length+2) (.cells [.sl pk 0 psA.length 2,av',bv])) fun j b h1 h2=>z0K h2 (by omega)
   have tkb:=p3.mono (Y:=Z1.set (H.length+2) (.cells [.sl pk 0 psA.length 2,av',bv])) fun j b h1 h2=>z0K h2 (by omega)
   have tca:=(zca.snoc z0 (by omega)).mono tbox
   have tcb:=zcb.mono tbox
   have tl1:=tbox _ _ (by omega) z1
   have tlen:(Z1.set (H.length+2) (.cells [.sl pk 0 psA.length 2,av',bv])).length=Z1.length:=lCC
   rw [←hln1] at tca
   generalize Z1.set (H.length+2) (.cells [.sl pk 0 psA.length 2,av',bv])=T at *
   clear u5 hko1 p1 p2 p3 z0 zka zkb zca zcb z5 hpres1
   refine z0A ?_
   refine z6P (vs:=[.ptr (m+2) 0,.ptr (Y.length+1) 0]) rfl ?_
   refine z0S (out:=[.clo (.func 51) [] [.ptr (m+2) 0,.ptr (Y.length+1) 0]]) rfl ?_
   refine zAv (kv:=bv) rfl tkb rfl rfl tcb.sc (by omega) (by omega) ?_
   intro bv' Z2 hko2 hsc2 hpres2 hlen2
   obtain ⟨q1,q2,q3⟩:=zKM (b9:=m+2) (by decide) tkb tcb.all tka tca.all hpres2
   have u5:=q1 _ _ (by omega) t5
   refine z0A ?_
   refine zPq hko2.shape rfl rfl u5 ?_
   have tlo2:∀ (j:Nat) (b:Blk),j<m+3→j≠H.length+2→T[j]? =some b→(Z2.set (H.length+2) (.cells [.sl pk 0 psA.length 2,av',bv']))[j]? =some b:=fun j b h1 h2 h3=>z0K (q1 j b h1 h3) (fun e=>h2 e.symm)
   have tbox2:∀ (j:Nat) (n:Nd),m+3≤j→T[j]? =some (.cells [z1u n])→(Z2.set (H.length+2) (.cells [.sl pk 0 psA.length 2,av',bv']))[j]? =some (.cells [z1u n]):=fun j n h1 h2=>z0K (q2 j n h2) (by omega)
   have hHl:∀ (j:Nat) (b:Blk),H[j]? =some b→j<H.length:=fun j b h=>(lAA.1 h).1
   have all2:∀ (j:Nat) (b:Blk),j<m+3→j≠H.length+2→j≠m+1→W[j]? =some b→(Z2.set (H.length+2) (.cells [.sl pk 0 psA.length 2,av',bv']))[j]? =some b:=fun j b h1 h2 h3 h4=>tlo2 j b h1 h2 (tlo j b h1 h2 (zlo j b h3 h4))
   refine z0A ?_
   refine ⟨hc,av',bv',_,_,rfl,fun j b h=>all2 j b (by have:=hHl j b h;omega) (by have:=hHl j b h;omega) (by have:=hHl j b h;omega) (w.old j b h),all2 _ _ (by omega) (by omega) (by omega) w3,lAT (by omega),all2 _ _ (by omega) (by omega) (by omega) w.gp,all2 _ _ (by omega) (by omega) (by omega) w.gm,tlo2 _ _ (by omega) (by omega) (tlo _ _ (by omega) (by omega) za),all2 _ _ (by omega) (by omega) (by omega) w9,q3.mono fun j b h1 h2=>z0K h2 (by omega),hko2.mono fun j b h1 h2=>z0K h2 (by omega),tca.mono tbox2,?_,by simp;omega⟩
   have:=(tcb.snoc tl1 (by omega)).mono tbox2
   rw [←hrn1] at this
   exact this
  ·simp only [lAC] at hc
   obtain rfl:i=L.length:=by omega
   have hlen:=w.ca.len
   have hlen2:=w.cb.len
   have hll:(zBT sg L L.length).length=L.length:=by simp [zBT]
   have hrl:(z6V sg L L.length).length=L.length:=by simp [z6V]
   obtain ⟨h,_⟩ | ⟨ka,rfl,gka,lka,nka⟩:=w.ka
   ·rw [h] at hlen;simp at hlen;omega
   obtain ⟨h,_⟩ | ⟨kb,rfl,gkb,lkb,nkb⟩:=w.kb
   ·rw [h] at hlen2;simp at hlen2;omega
   refine z0A ?_
   have hab:ka≠kb:=zHW gka gkb fun e=>by
    injection e with e
    obtain ⟨c,hc⟩:=List.exists_mem_of_ne_nil _ nka
    obtain ⟨x,hx⟩:=w.ca.all c hc
    obtain ⟨y,hy⟩:=w.cb.all c (e ▸ hc)
    rw [hx] at hy
    injection hy with hy
    injection hy with hy
    exact absurd hy (by decide)
   have c1:=zGc w.ca.all
   have c2:=zGc w.cb.all
   have gp2:=z0K (i:=H.length+2) (c:=.dead) w.gp (by omega)
   have ga2:=z0K (i:=pk) (c:=.dead) (z0K (i:=H.length+2) (c:=.dead) gka (by omega)) (by omega)
   have gb2:=z0K (i:=ka) (c:=.dead) (z0K (i:=pk) (c:=.dead) (z0K (i:=H.length+2) (c:=.dead) gkb (by omega)) (by omega)) hab
   have keep:∀ (j:Nat) (b:Blk),j≠H.length+2→j≠pk→j≠ka→j≠kb→W[j]? =some b→((((W.set (H.length+2) .dead).set pk .dead).set ka .dead).set kb .dead)[j]? =some b:=fun j b h1 h2 h3 h4 h=>z0K (z0K (z0K (z0K h (fun e=>h1 e.symm)) (fun e=>h2 e.symm)) (fun e=>h3 e.symm)) (fun e=>h4 e.symm)
   have hHl:∀ (j:Nat) (b:Blk),H[j]? =some b→j<H.length:=fun j b h=>(lAA.1 h).1
   have hgd:=zTE (zKY sg L) hform
   have hfl:z0d psA=(z0d psA).take (psA.length*2):=by rw [←z0t hp0,lAW]
   refine z0W rfl (.inl ⟨_,.cptr [.list 2 psA,.list 1 cs,.list 1 ds],(((W.set (H.length+2) .dead).set pk .dead).set ka .dead).set kb .dead,rfl,.step (H.length+2) _ (by omega) w5 (.base _ _ (.ptr 0 (by simp))) (.step pk _ (by omega) gp2 (.cptr _ [.list 2 psA,.sl ka 0 cs.length 1,.sl kb 0 ds.length 1] rfl fun i=>?_) (.step ka _ (by omega) ga2 (.cptr _ [.list 2 psA,.list 1 cs,.sl kb 0 ds.length 1] rfl fun i=>?_) (.step kb _ (by omega) gb2 (.cptr _ [.list 2 psA,.list 1 cs,.list 1 ds] rfl fun i=>?_) (.done _ _)))),?_,?_⟩)
   ·match i with
    | 0=>exact .base _ _ (.sl 0 psA.length 2 psA rfl hp0 hfl (by rw [z0t hp0];omega))
    | 1=>exact .refl _
    | 2=>exact .refl _
    | i+3=>exact .refl _
   ·match i with
    | 0=>exact .refl _
    | 1=>exact .base _ _ (.sl 0 cs.length 1 cs rfl (fun x hx=>by rw [c1 x hx];rfl) (by rw [z1J c1,lBP,lCB,lAW]) (by omega))
    | 2=>exact .refl _
    | i+3=>exact .refl _
   ·match i with
    | 0=>exact .refl _
    | 1=>exact .refl _
    | 2=>exact .base _ _ (.sl 0 ds.length 1 ds rfl (fun x hx=>by rw [c2 x hx];rfl) (by rw [z1J c2,lBP,lCB,lAW]) (by omega))
    | i+3=>exact .refl _
   ·exact fun j b h=>keep j b (by have:=hHl j b h;omega) (by have:=hHl j b h;omega) (by have:=hHl j b h;omega) (by have:=hHl j b h;omega) (w.old j b h)
   ·have kga:=keep _ _ (by omega) (by omega) (by omega) (by omega) w.ga
    have kg9:=keep _ _ (by omega) (by omega) (by omega) (by omega) w9
    have kgm:=keep _ _ (by omega) (by omega) (by omega) (by omega) w.gm
    have kbox:∀ (j:Nat) (n:Nd),m+3≤j→W[j]? =some (.cells [z1u n])→((((W.set (H.length+2) .dead).set pk .dead).set ka .dead).set kb .dead)[j]? =some (.cells [z1u n]):=fun j n h1 h2=>keep j _ (by omega) (by omega) (zPH h2 gka w.ca.all) (zPH h2 gkb w.cb.all) h2
    generalize (((W.set (H.length+2) .dead).set pk .dead).set ka .dead).set kb .dead=Kh at *
    refine ⟨.list 2 psA,.list 1 cs,.list 1 ds,cs,ds,m+1,m,⟨rfl,by rw [←hps];exact .list _,.list _,.list _,by rw [hlen,hll];simp [z5T],by rw [hlen2,hrl];simp [z2J],by simp [z5T,z2J],?_,?_,by simp;omega,by simp [z5T];omega,?_⟩,⟨[],0,fun e he=>(by cases he),Mod.refl kgm⟩,by omega⟩
    ·intro i c f hc hf
     unfold z5T at hf
     rw [lAK] at hf
     cases hp:L[i]? with
     | none=>rw [hp] at hf;cases hf
     | some p =>
      rw [hp] at hf
      injection hf with hf
      subst hf
      obtain ⟨b,h1,h2,h3⟩:=w.ca.get i _ (zNL hp (lAA.1 hp).1)
      rw [hc] at h1
      injection h1 with h1
      subst h1
      obtain ⟨g1,g2⟩:=hgd _ (zAW (zJH (sg:=sg) hp).1 (zEM _))
      have:=y0n g1 kga (by omega) kg9 (kbox _ _ h3 h2) (by omega) (by omega)
      rw [g2,zET] at this
      exact this
    ·intro i c f hc hf
     unfold z2J at hf
     rw [lAK] at hf
     cases hp:L[i]? with
     | none=>rw [hp] at hf;cases hf
     | some p =>
      rw [hp] at hf
      injection hf with hf
      subst hf
      obtain ⟨b,h1,h2,h3⟩:=w.cb.get i _ (zKq hp (lAA.1 hp).1)
      rw [hc] at h1
      injection h1 with h1
      subst h1
      obtain ⟨g1,g2⟩:=hgd _ (zAW (zJH (sg:=sg) hp).2 (zEM _))
      have:=y0m g1 kga (by omega) kg9 (kbox _ _ h3 h2) (by omega) (by omega)
      rw [g2,zET] at this
      exact this
    ·intro q hq
     obtain ⟨p,hp,rfl⟩:=lBB.1 hq
     have:=(hr.pa p hp).1
     simp [z2G];omega
end Go.Ab
