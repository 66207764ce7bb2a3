/- Part 45 of the proof. -/
import Derived.Test.YtagcckioikbanaaGreatDoorM40
set_option linter.unusedVariables false
set_option linter.unusedSimpArgs false
namespace Go.Ab
open Go
set_option maxRecDepth 100000
set_option maxHeartbeats 16000000
theorem a27 {sv:AV} {sg:List Bt} {r:Ru} (hsv:Sl 1 sv (sg.map .str)) (hsg:zCX sg) (hsn:sg.length≤256) (hr:RuOk sg r) (H:z0B) :
  z0D PP 19 [z6e r,sv] H (zNU (fun v H'=>(∀ (j:Nat) (b:Blk),H[j]? =some b→H'[j]? =some b)∧∃ pv av bv cs ds aid mid,LookV (DT (zDd sg (z0d r))) aid mid H' v pv av bv (r.pairs.map (z3u sg)) cs ds (z8F sg (z0d r)) (z3A sg (z0d r))∧z0n (DT (zDd sg (z0d r))) mid H' H'∧H.length≤mid) (fun _ _=>False)):=by
 have k60:=a60 r (by have:=hr.nl;omega)
 obtain ⟨kind,pn,pairs,ln,places,below⟩:=r
 have hpn:=hr.np
 have hpa:=hr.pa
 have hne:=hr.ne
 simp only at hpn hpa hne
 generalize hL:z0d ⟨kind,pn,pairs,ln,places,below⟩=L at *
 have hLn:0<L.length∧L.length≤1000:=by
  rw [←hL]
  unfold z0d
  have:=hr.nl
  simp only at this ⊢
  cases places with
  | nil=>simp
  | cons a b=>simpa using this
 have hsz:=hr.sz
 have hok:=hr.ok
 have hform:=hr.form
 rw [hL] at hsz hok hform
 obtain ⟨hs1,hs2,hs3⟩:=zXu hsv
 refine z0D.sealed (n:=H.length) ?_
 refine is19.c2 z0R mixed rfl ?_
 rw [lAK]
 unfold z6e at k60 ⊢
 refine z1e (z0c ?_)
 refine z1E (.agg [.int .i64 kind,z0T pn pairs,z0U ln places,.bool below]) rfl (by simp only [AV.shaped,z2E,z2F];first | done | rfl) ?_
 refine z1E sv rfl hs1 ?_
 rw [hs2]
 have x2:(H++[Blk.cells [.int .i64 kind,z0T pn pairs,z0U ln places,.bool below]]++[.cells [sv]])[H.length]? =some (.cells [.int .i64 kind,z0T pn pairs,z0U ln places,.bool below]):=z0G z0K
 have hl3:(H++[Blk.cells [.int .i64 kind,z0T pn pairs,z0U ln places,.bool below]]:z0B).length=H.length+1:=by simp
 have x3:(H++[Blk.cells [.int .i64 kind,z0T pn pairs,z0U ln places,.bool below]]++[.cells [sv]])[H.length+1]? =some (.cells [sv]):=by rw [←hl3];exact z0K
 have hlX:(H++[Blk.cells [.int .i64 kind,z0T pn pairs,z0U ln places,.bool below]]++[.cells [sv]]:z0B).length=H.length+2:=by simp
 have xo:∀ (j:Nat) (b:Blk),H[j]? =some b→(H++[Blk.cells [.int .i64 kind,z0T pn pairs,z0U ln places,.bool below]]++[.cells [sv]])[j]? =some b:=fun j b h=>z0G (z0G h)
 have hl3':(H++[Blk.cells (AV.agg [.int .i64 kind,z0T pn pairs,z0U ln places,.bool below]).cells]:z0B).length=H.length+1:=by simp
 rw [hl3']
 show VV _ _ _ (H++[Blk.cells [.int .i64 kind,z0T pn pairs,z0U ln places,.bool below]]++[.cells [sv]]) _ _
 generalize (H++[Blk.cells [.int .i64 kind,z0T pn pairs,z0U ln places,.bool below]]++[.cells [sv]]:z0B)=X at *
 clear hl3 hl3'
 refine z0A ?_
 refine z1w (out:=[.nilslice,.nilslice,.nilslice]) rfl rfl ?_
 refine z1E (.agg [.nilslice,.nilslice,.nilslice]) rfl rfl ?_
 have y5:(X++[Blk.cells [.nilslice,.nilslice,.nilslice]])[H.length+2]? =some (.cells [.nilslice,.nilslice,.nilslice]):=by rw [←hlX];exact z0K
 have y2:=z0G (G:=[Blk.cells [.nilslice,.nilslice,.nilslice]]) x2
 have y3:=z0G (G:=[Blk.cells [.nilslice,.nilslice,.nilslice]]) x3
 have yo:∀ (j:Nat) (b:Blk),H[j]? =some b→(X++[Blk.cells [.nilslice,.nilslice,.nilslice]])[j]? =some b:=fun j b h=>z0G (xo j b h)
 have hlY:(X++[Blk.cells [.nilslice,.nilslice,.nilslice]]:z0B).length=H.length+3:=by simp [hlX]
 rw [hlX]
 show VV _ _ _ (X++[Blk.cells [.nilslice,.nilslice,.nilslice]]) _ _
 generalize (X++[Blk.cells [.nilslice,.nilslice,.nilslice]]:z0B)=Y at *
 clear x2 x3 xo hlX X
 have hsp:=zEB pn pairs
 have hlp:(pairs.map z2W).length=pairs.length:=lAE _
 refine z0A ?_
 refine z6h (vs:=[.ptr (H.length+1) 0]) rfl ?_
 refine z0A ?_
 refine z0F pairs.length (fun i al H'=>∃ pv,al=[(2,.ptr H.length 0),(3,.ptr (H.length+1) 0),(5,.ptr (H.length+2) 0),(6,.clo (.func 43) [] [.ptr (H.length+1) 0]),(18,z0T pn pairs),(19,.int .i64 pairs.length),(20,.int .i64 i)] ∧
  (∀ (j:Nat) (b:Blk),H[j]? =some b→H'[j]? =some b)∧H'[H.length]? =some (.cells [.int .i64 kind,z0T pn pairs,z0U ln places,.bool below])∧H'[H.length+1]? =some (.cells [sv])∧H'[H.length+2]? =some (.cells [pv,.nilslice,.nilslice]) ∧
  z3v 2 (H.length+3) H' pv (((pairs.take i).map (z3u sg)).map z7B)∧H.length+3≤H'.length) ⟨_,by rw [hlp];rfl,yo,y2,y3,y5,z3v.nil,by omega⟩ ?_
 clear y2 y3 y5 yo hlY Y
 rintro i _ V hi ⟨pv,rfl,vo,v2,v3,v5,vp,vl⟩
 have e1:decide ((i:Int)<(pairs.length:Int))=decide (i<pairs.length):=by simp only [lAP];omega
 refine z0A ?_
 rw [e1]
 cases hc:decide (i<pairs.length)
 rotate_left
 ·simp only [lAD] at hc
  obtain ⟨p,hp⟩:=z0M (l:=pairs) (i:=i) hc
  have hu:(pairs.map z2W)[i]? =some (.agg [z0X p.a,z0X p.b]):=z0q (f:=z2W) hp
  obtain ⟨ha1,hb1,ha2,hb2⟩:=hpa p (lAF hp)
  have htk:((pairs.take (i+1)).map (z3u sg)).map z7B=((pairs.take i).map (z3u sg)).map z7B++[.agg [.str (p.a.l.map (mu sg)),.str (p.b.l.map (mu sg))]]:=by
   rw [lBA,hp];simp [z7B,z3u]
  have k1:=a57 (b:=H.length+1) (H:=V++[Blk.cells [z0X p.a,z0X p.b]]) (z0G v3) hs2 hsv (z7S p.a) hsg hsn (by omega) ha2
  have k2:=a57 (b:=H.length+1) (H:=V++[Blk.cells [z0X p.a,z0X p.b]]) (z0G v3) hs2 hsv (z7S p.b) hsg hsn (by omega) hb2
  refine z0A ?_
  refine z1a rfl rfl rfl rfl rfl zNN ?_
  have y8:(V++[Blk.cells [z0X p.a,z0X p.b]])[V.length]? =some (.cells [z0X p.a,z0X p.b]):=z0K
  have yo:∀ (j:Nat) (b:Blk),H[j]? =some b→(V++[Blk.cells [z0X p.a,z0X p.b]])[j]? =some b:=fun j b h=>z0G (vo j b h)
  have y2:=z0G (G:=[Blk.cells [z0X p.a,z0X p.b]]) v2
  have y3:=z0G (G:=[Blk.cells [z0X p.a,z0X p.b]]) v3
  have y5:=z0G (G:=[Blk.cells [z0X p.a,z0X p.b]]) v5
  have yp:=vp.app [Blk.cells [z0X p.a,z0X p.b]]
  have yl:(V++[Blk.cells [z0X p.a,z0X p.b]]:z0B).length=V.length+1:=by simp
  generalize (V++[Blk.cells [z0X p.a,z0X p.b]]:z0B)=Y at *
  refine z0A ?_
  refine z3k (z2r [H.length+2,V.length]) ?_
  refine z0A ?_
  refine vz_c rfl rfl (lAL _) (z7d rfl zXc.hasBody k1 (zHK ?_))
  refine z0A ?_
  refine vz_c rfl rfl (lAL _) (z7d rfl zXc.hasBody k2 (zHK ?_))
  refine z0A ?_
  refine z1w (out:=[.str (p.a.l.map (mu sg)),.str (p.b.l.map (mu sg))]) rfl rfl ?_
  refine z0A ?_
  refine zDm rfl rfl (lAL _) ?_
  refine z0Z (out:=[.str (p.a.l.map (mu sg)),.str (p.b.l.map (mu sg))]) rfl ?_
  refine z1b z2v ?_
  refine zDm rfl rfl (by simp) ?_
  have hpl:(((pairs.take i).map (z3u sg)).map z7B).length≤1000:=by simp;omega
  have n8:=vp.lt (lAL V.length)
  have nlo:=fun j (hj:j<H.length+3)=>vp.ne hj
  refine zCg (v:=pv) rfl yp rfl rfl rfl (by omega) (by omega) ?_
  intro kv' H' hko hpres hlen'
  rw [←htk] at hko
  have u2:=hpres _ _ (nlo _ (by omega)) y2
  have u3:=hpres _ _ (nlo _ (by omega)) y3
  have u5:=hpres _ _ (nlo _ (by omega)) y5
  have hl8:=(lAA.1 y8).1
  refine z1b (z1K fun j hj b hb'=>?_) ?_
  ·simp only [lAT,lA5,or_false] at hj
   have hjl:j<Y.length:=by omega
   rw [lAN hjl] at hb'
   rcases hj with rfl | rfl
   ·exact hpres _ _ (nlo _ (by omega)) hb'
   ·exact hpres _ _ n8 hb'
  refine z0A ?_
  refine zQN rfl rfl rfl (by omega) ?_
  refine zNr hko.shape rfl rfl u5 ?_
  refine z3y ?_
  refine z0A ?_
  have hHl:∀ (j:Nat) (b:Blk),H[j]? =some b→j<H.length:=fun j b h=>(lAA.1 h).1
  refine ⟨hc,kv',rfl,fun j b h=>z0J (hpres j b (nlo _ (by have:=hHl j b h;omega)) (yo j b h)) (by have:=hHl j b h;omega),z0J u2 (by omega),z0J u3 (by omega),?_,hko.mono fun j b h1 h2=>z0J h2 (by omega),by simp;omega⟩
  exact lAU (lAA.1 u5).1
 ·simp only [lAC] at hc
  have:pairs.take i=pairs:=lAS (by omega)
  rw [this] at vp
  obtain ⟨hp0,⟨h,_⟩ | ⟨pk,rfl,vp,hkp,_⟩⟩:=vp
  ·exact absurd (by simpa using h) hne
  clear hc hi e1 hpa
  have hkm:=(lAA.1 vp).1
  have hnp2:((pairs.map (z3u sg)).map z7B).length≤1000:=by simpa using hpn
  generalize hps:(pairs.map (z3u sg)).map z7B=psA at *
  refine z0A ?_
  refine z0L rfl (a59 _) ?_ ?_
  rotate_left
  ·rintro u V' ⟨hu,_⟩
   cases hu
  rintro u V' ⟨hu,rfl⟩
  cases hu
  refine z0A ?_
  refine zFs (a:=V.length+1) (o:=0) rfl rfl ?_
  have hl2:(V++[.map [] 0,CB V.length 0]:z0B).length=V.length+2:=by simp
  have y0:LH H (H.length+1) (H.length+2) pk V.length sv psA sg L 0 .nilslice .nilslice [] [] (V++[.map [] 0,CB V.length 0]++[.cells [.ptr (V.length+1) 0]]):=by
   refine ⟨fun j b h=>z0G (z0G (vo j b h)),z0G (z0G v3),z0G (z0G v5),z0G (z0G vp),z0G ?_,z0G ?_,?_,.inl ⟨rfl,rfl⟩,.inl ⟨rfl,rfl⟩,⟨rfl,fun k m h=>by simp [zAb] at h⟩,⟨rfl,fun k m h=>by simp [z5q] at h⟩,by simp⟩
   ·exact z1R (n:=0)
   ·exact z1R (n:=1)
   ·rw [←hl2];exact z0K
  have y2:=z0G (G:=[.cells [.ptr (V.length+1) 0]]) (z0G (G:=[.map [] 0,CB V.length 0]) v2)
  rw [hl2]
  generalize (V++[.map [] 0,CB V.length 0]++[.cells [.ptr (V.length+1) 0]]:z0B)=Y at *
  clear vo v2 v3 v5 vp hl2
  generalize hm:V.length=m at *
  clear hm V
  dsimp only at k60
  refine z0A ?_
  refine z0H rfl (k60 _) ?_
  have hsL:Sl 6 (.list 6 (L.map z0x)) (L.map z0x):=.list _
  have hlL:(L.map z0x).length=L.length:=lAE _
  generalize hLv:AV.list 6 (L.map z0x)=Lv at *
  refine z0A ?_
  refine z0F L.length (fun i al H'=>∃ av bv cs ds,al=[(3,.ptr (H.length+1) 0),(5,.ptr (H.length+2) 0),(9,.ptr (m+2) 0),(45,Lv),(46,.int .i64 L.length),(47,.int .i64 i)]∧LH H (H.length+1) (H.length+2) pk m sv psA sg L i av bv cs ds H') ⟨_,_,_,_,by rw [hlL];rfl,y0⟩ ?_
  clear y0 y2 Y this i
  rintro i _ W hi ⟨av,bv,cs,ds,rfl,w⟩
  have e1:decide ((i:Int)<(L.length:Int))=decide (i<L.length):=by simp only [lAP];omega
  have w3:=w.g3
  have w5:=w.g5
  have w9:=w.g9
  have wl:=w.len
  refine z0A ?_
  rw [e1]
  cases hc:decide (i<L.length)
  rotate_left
  ·simp only [lAD] at hc
   obtain ⟨p,hp⟩:=z0M (l:=L) (i:=i) hc
   obtain ⟨okl,okr,sl,sr⟩:=hok p (lAF hp)
   have hsn1:=zCE hp
   have hsz1:z0V (z2Y (L.take i))+p.1.size+p.2.size=z0V (z2Y (L.take (i+1))):=by
    rw [hsn1,zAH];simp only [z0V];omega
   have hszl:z0V (z2Y (L.take (i+1)))≤z0V (z2Y L):=by
    have e:z2Y L=z2Y (L.take (i+1))++z2Y (L.drop (i+1)):=by unfold z2Y;rw [←lBZ,lDV]
    rw [e,zAH];omega
   have hln1:=zJv (sg:=sg) hp
   have hrn1:=zGE (sg:=sg) hp
   have hncx:NCx (z0V (z2Y (L.take i))) sv sg p.1 p.2:=⟨hsv,hsg,hsn,by omega,okl,okr,sl,sr⟩
   obtain ⟨⟨op,s,nl,l⟩,op2,s2,nl2,l2⟩:=p
   have hu:(L.map z0x)[i]? =some (.agg [.int .i64 op,.str s,lst nl l,.int .i64 op2,.str s2,lst nl2 l2]):=z0q (f:=z0x) hp
   have x1:=z0a op s nl l
   have x2:=z0a op2 s2 nl2 l2
   simp only at hln1 hrn1 hsz1 hncx
   generalize hE1:Ex.mk op s nl l=E1 at *
   generalize hE2:Ex.mk op2 s2 nl2 l2=E2 at *
   refine z0A ?_
   refine z1a rfl rfl rfl rfl rfl zJK ?_
   have y11:(W++[Blk.cells [.int .i64 op,.str s,lst nl l,.int .i64 op2,.str s2,lst nl2 l2]])[W.length]? =some (.cells [.int .i64 op,.str s,lst nl l,.int .i64 op2,.str s2,lst nl2 l2]):=z0K
   have yo:∀ (j:Nat) (b:Blk),W[j]? =some b→(W++[Blk.cells [.int .i64 op,.str s,lst nl l,.int .i64 op2,.str s2,lst nl2 l2]])[j]? =some b:=fun j b h=>z0G h
   have yl:(W++[Blk.cells [.int .i64 op,.str s,lst nl l,.int .i64 op2,.str s2,lst nl2 l2]]:z0B).length=W.length+1:=by simp
   generalize (W++[Blk.cells [.int .i64 op,.str s,lst nl l,.int .i64 op2,.str s2,lst nl2 l2]]:z0B)=Y at *
   have y3:=yo _ _ w3
   have y9:=yo _ _ w9
   refine z0A ?_
   refine zMM (z2r [m+2,W.length,H.length+1]) ?_
   have r3:=z0G (G:=[.resv,.resv]) y3
   have r9:=z0G (G:=[.resv,.resv]) y9
   have r11:=z0G (G:=[.resv,.resv]) y11
   have ra:=z0G (G:=[.resv,.resv]) (yo _ _ w.ga)
   refine z0A ?_
   have hYl:W.length+1=Y.length:=yl.symm
   refine zTM (X:=Y) (aid:=m+1) (mid:=m) (n:=z0V (z2Y (L.take i))) (sv:=sv) (sg:=sg) (L:=E1) (R:=E2) (a3:=.ptr (H.length+1) 0) (a5:=.ptr (H.length+2) 0) (a9:=.ptr (m+2) 0) (a45:=Lv) (a46:=.int .i64 L.length) (a47:=.int .i64 i) rfl rfl rfl rfl rfl rfl (fun j hj=>?_) (by omega) hncx ⟨rfl,x1.symm,rfl,rfl,x2.symm,rfl,rfl,rfl,rfl,rfl,rfl,rfl,fun e=>(by cases e),fun e=>(by cases e),fun e=>(by cases e),fun e=>(by cases e),ra,z1R (n:=0),z1R (n:=1),fun j b _ _ h=>z0G h,by simp⟩ ?_
   ·simp only [lAT,lA5,or_false] at hj
    omega
   rw [hsz1]
   intro Z za z0 z1 zo zl
   have zlo:∀ (j:Nat) (b:Blk),j≠m+1→W[j]? =some b→Z[j]? =some b:=fun j b h1 h2=>zo j b (by have:=(lAA.1 h2).1;omega) h1 (yo j b h2)
   have z5:=zlo _ _ (by omega) w5
   have zka:z1D (m+3) Z av cs:=w.ka.mono fun j b h1 h2=>zlo j b (by omega) h2
   have zkb:z1D (m+3) Z bv ds:=w.kb.mono fun j b h1 h2=>zlo j b (by omega) h2
   have zca:Clos 49 (m+2) (m+3) Z cs (zAb sg L i):=w.ca.mono fun j m h1 h2=>zlo j _ (by omega) h2
   have zcb:Clos 51 (m+2) (m+3) Z ds (z5q sg L i):=w.cb.mono fun j m h1 h2=>zlo j _ (by omega) h2
   have hcsl:cs.length≤1000:=by rw [w.ca.len];simp [zAb];omega
   have hdsl:ds.length≤1000:=by rw [w.cb.len];simp [z5q];omega
   clear r3 r9 r11 ra y3 y9 y11
   refine z0A ?_
   refine z6h (vs:=[.ptr (m+2) 0,.ptr Y.length 0]) rfl ?_
   refine z0Z (out:=[.clo (.func 49) [] [.ptr (m+2) 0,.ptr Y.length 0]]) rfl ?_
   refine zAF (kv:=av) rfl zka rfl rfl zca.sc (by omega) (by omega) ?_
   intro av' Z1 hko1 hsc1 hpres1 hlen1
   obtain ⟨p1,p2,p3⟩:=zJJ (b9:=m+2) (by decide) zka zca.all zkb zcb.all hpres1
   have u5:=p1 _ _ (by omega) z5
   refine z0A ?_
   refine zNq hko1.shape rfl rfl u5 ?_
   have t5:(Z1.set (H.length+2) (.cells [.sl pk 0 psA.length 2,av',bv]))[H.length+2]? =some (.cells [.sl pk 0 psA.length 2,av',bv]):=lAU (by omega)
   have tlo:∀ (j:Nat) (b:Blk),j<m+3→j≠H.length+2→Z[j]? =some b→(Z1.set (H.length+2) (.cells [.sl pk 0 psA.length 2,av',bv]))[j]? =some b:=fun j b h1 h2 h3=>z0J (p1 j b h1 h3) (fun e=>h2 e.symm)
   have tbox:∀ (j:Nat) (n:Nd),m+3≤j→Z[j]? =some (.cells [z1j n])→(Z1.set (H.length+2) (.cells [.sl pk 0 psA.length 2,av',bv]))[j]? =some (.cells [z1j n]):=fun j n h1 h2=>z0J (p2 j n h2) (by omega)
   have tka:=hko1.mono (Y:=Z1.set (H.length+2) (.cells [.sl pk 0 psA.length 2,av',bv])) fun j b h1 h2=>z0J h2 (by omega)
   have tkb:=p3.mono (Y:=Z1.set (H.length+2) (.cells [.sl pk 0 psA.length 2,av',bv])) fun j b h1 h2=>z0J h2 (by omega)
   have tca:=(zca.snoc z0 (by omega)).mono tbox
   have tcb:=zcb.mono tbox
   have tl1:=tbox _ _ (by omega) z1
   have tlen:(Z1.set (H.length+2) (.cells [.sl pk 0 psA.length 2,av',bv])).length=Z1.length:=lCK
   rw [←hln1] at tca
   generalize Z1.set (H.length+2) (.cells [.sl pk 0 psA.length 2,av',bv])=T at *
   clear u5 hko1 p1 p2 p3 z0 zka zkb zca zcb z5 hpres1
   refine z0A ?_
   refine z6h (vs:=[.ptr (m+2) 0,.ptr (Y.length+1) 0]) rfl ?_
   refine z0Z (out:=[.clo (.func 51) [] [.ptr (m+2) 0,.ptr (Y.length+1) 0]]) rfl ?_
   refine zAF (kv:=bv) rfl tkb rfl rfl tcb.sc (by omega) (by omega) ?_
   intro bv' Z2 hko2 hsc2 hpres2 hlen2
   obtain ⟨q1,q2,q3⟩:=zJJ (b9:=m+2) (by decide) tkb tcb.all tka tca.all hpres2
   have u5:=q1 _ _ (by omega) t5
   refine z0A ?_
   refine zNp hko2.shape rfl rfl u5 ?_
   have tlo2:∀ (j:Nat) (b:Blk),j<m+3→j≠H.length+2→T[j]? =some b→(Z2.set (H.length+2) (.cells [.sl pk 0 psA.length 2,av',bv']))[j]? =some b:=fun j b h1 h2 h3=>z0J (q1 j b h1 h3) (fun e=>h2 e.symm)
   have tbox2:∀ (j:Nat) (n:Nd),m+3≤j→T[j]? =some (.cells [z1j n])→(Z2.set (H.length+2) (.cells [.sl pk 0 psA.length 2,av',bv']))[j]? =some (.cells [z1j n]):=fun j n h1 h2=>z0J (q2 j n h2) (by omega)
   have hHl:∀ (j:Nat) (b:Blk),H[j]? =some b→j<H.length:=fun j b h=>(lAA.1 h).1
   have all2:∀ (j:Nat) (b:Blk),j<m+3→j≠H.length+2→j≠m+1→W[j]? =some b→(Z2.set (H.length+2) (.cells [.sl pk 0 psA.length 2,av',bv']))[j]? =some b:=fun j b h1 h2 h3 h4=>tlo2 j b h1 h2 (tlo j b h1 h2 (zlo j b h3 h4))
   refine z0A ?_
   refine ⟨hc,av',bv',_,_,rfl,fun j b h=>all2 j b (by have:=hHl j b h;omega) (by have:=hHl j b h;omega) (by have:=hHl j b h;omega) (w.old j b h),all2 _ _ (by omega) (by omega) (by omega) w3,lAU (by omega),all2 _ _ (by omega) (by omega) (by omega) w.gp,all2 _ _ (by omega) (by omega) (by omega) w.gm,tlo2 _ _ (by omega) (by omega) (tlo _ _ (by omega) (by omega) za),all2 _ _ (by omega) (by omega) (by omega) w9,q3.mono fun j b h1 h2=>z0J h2 (by omega),hko2.mono fun j b h1 h2=>z0J h2 (by omega),tca.mono tbox2,?_,by simp;omega⟩
   have:=(tcb.snoc tl1 (by omega)).mono tbox2
   rw [←hrn1] at this
   exact this
  ·simp only [lAC] at hc
   obtain rfl:i=L.length:=by omega
   have hlen:=w.ca.len
   have hlen2:=w.cb.len
   have hll:(zAb sg L L.length).length=L.length:=by simp [zAb]
   have hrl:(z5q sg L L.length).length=L.length:=by simp [z5q]
   obtain ⟨h,_⟩ | ⟨ka,rfl,gka,lka,nka⟩:=w.ka
   ·rw [h] at hlen;simp at hlen;omega
   obtain ⟨h,_⟩ | ⟨kb,rfl,gkb,lkb,nkb⟩:=w.kb
   ·rw [h] at hlen2;simp at hlen2;omega
   refine z0A ?_
   have hab:ka≠kb:=zGR gka gkb fun e=>by
    injection e with e
    obtain ⟨c,hc⟩:=List.exists_mem_of_ne_nil _ nka
    obtain ⟨x,hx⟩:=w.ca.all c hc
    obtain ⟨y,hy⟩:=w.cb.all c (e ▸ hc)
    rw [hx] at hy
    injection hy with hy
    injection hy with hy
    exact absurd hy (by decide)
   have c1:=zFb w.ca.all
   have c2:=zFb w.cb.all
   have gp2:=z0J (i:=H.length+2) (c:=.dead) w.gp (by omega)
   have ga2:=z0J (i:=pk) (c:=.dead) (z0J (i:=H.length+2) (c:=.dead) gka (by omega)) (by omega)
   have gb2:=z0J (i:=ka) (c:=.dead) (z0J (i:=pk) (c:=.dead) (z0J (i:=H.length+2) (c:=.dead) gkb (by omega)) (by omega)) hab
   have keep:∀ (j:Nat) (b:Blk),j≠H.length+2→j≠pk→j≠ka→j≠kb→W[j]? =some b→((((W.set (H.length+2) .dead).set pk .dead).set ka .dead).set kb .dead)[j]? =some b:=fun j b h1 h2 h3 h4 h=>z0J (z0J (z0J (z0J h (fun e=>h1 e.symm)) (fun e=>h2 e.symm)) (fun e=>h3 e.symm)) (fun e=>h4 e.symm)
   have hHl:∀ (j:Nat) (b:Blk),H[j]? =some b→j<H.length:=fun j b h=>(lAA.1 h).1
   have hgd:=zRz (zJT sg L) hform
   have hfl:z0j psA=(z0j psA).take (psA.length*2):=by rw [←z0y hp0,lAW]
   refine z0Y rfl (.inl ⟨_,.cptr [.list 2 psA,.list 1 cs,.list 1 ds],(((W.set (H.length+2) .dead).set pk .dead).set ka .dead).set kb .dead,rfl,.step (H.length+2) _ (by omega) w5 (.base _ _ (.ptr 0 (by simp))) (.step pk _ (by omega) gp2 (.cptr _ [.list 2 psA,.sl ka 0 cs.length 1,.sl kb 0 ds.length 1] rfl fun i=>?_) (.step ka _ (by omega) ga2 (.cptr _ [.list 2 psA,.list 1 cs,.sl kb 0 ds.length 1] rfl fun i=>?_) (.step kb _ (by omega) gb2 (.cptr _ [.list 2 psA,.list 1 cs,.list 1 ds] rfl fun i=>?_) (.done _ _)))),?_,?_⟩)
   ·match i with
    | 0=>exact .base _ _ (.sl 0 psA.length 2 psA rfl hp0 hfl (by rw [z0y hp0];omega))
    | 1=>exact .refl _
    | 2=>exact .refl _
    | i+3=>exact .refl _
   ·match i with
    | 0=>exact .refl _
    | 1=>exact .base _ _ (.sl 0 cs.length 1 cs rfl (fun x hx=>by rw [c1 x hx];rfl) (by rw [z1B c1,lBL,lCA,lAW]) (by omega))
    | 2=>exact .refl _
    | i+3=>exact .refl _
   ·match i with
    | 0=>exact .refl _
    | 1=>exact .refl _
    | 2=>exact .base _ _ (.sl 0 ds.length 1 ds rfl (fun x hx=>by rw [c2 x hx];rfl) (by rw [z1B c2,lBL,lCA,lAW]) (by omega))
    | i+3=>exact .refl _
   ·exact fun j b h=>keep j b (by have:=hHl j b h;omega) (by have:=hHl j b h;omega) (by have:=hHl j b h;omega) (by have:=hHl j b h;omega) (w.old j b h)
   ·have kga:=keep _ _ (by omega) (by omega) (by omega) (by omega) w.ga
    have kg9:=keep _ _ (by omega) (by omega) (by omega) (by omega) w9
    have kgm:=keep _ _ (by omega) (by omega) (by omega) (by omega) w.gm
    have kbox:∀ (j:Nat) (n:Nd),m+3≤j→W[j]? =some (.cells [z1j n])→((((W.set (H.length+2) .dead).set pk .dead).set ka .dead).set kb .dead)[j]? =some (.cells [z1j n]):=fun j n h1 h2=>keep j _ (by omega) (by omega) (zNE h2 gka w.ca.all) (zNE h2 gkb w.cb.all) h2
    generalize (((W.set (H.length+2) .dead).set pk .dead).set ka .dead).set kb .dead=Kh at *
    refine ⟨.list 2 psA,.list 1 cs,.list 1 ds,cs,ds,m+1,m,⟨rfl,by rw [←hps];exact .list _,.list _,.list _,by rw [hlen,hll];simp [z8F],by rw [hlen2,hrl];simp [z3A],by simp [z8F,z3A],?_,?_,by simp;omega,by simp [z8F];omega,?_⟩,⟨[],0,fun e he=>(by cases he),Mod.refl kgm⟩,by omega⟩
    ·intro i c f hc hf
     unfold z8F at hf
     rw [lAM] at hf
     cases hp:L[i]? with
     | none=>rw [hp] at hf;cases hf
     | some p =>
      rw [hp] at hf
      injection hf with hf
      subst hf
      obtain ⟨b,h1,h2,h3⟩:=w.ca.get i _ (zMK hp (lAA.1 hp).1)
      rw [hc] at h1
      injection h1 with h1
      subst h1
      obtain ⟨g1,g2⟩:=hgd _ (z9c (zHE (sg:=sg) hp).1 (zDN _))
      have:=zZW g1 kga (by omega) kg9 (kbox _ _ h3 h2) (by omega) (by omega)
      rw [g2,zDT] at this
      exact this
    ·intro i c f hc hf
     unfold z3A at hf
     rw [lAM] at hf
     cases hp:L[i]? with
     | none=>rw [hp] at hf;cases hf
     | some p =>
      rw [hp] at hf
      injection hf with hf
      subst hf
      obtain ⟨b,h1,h2,h3⟩:=w.cb.get i _ (zJg hp (lAA.1 hp).1)
      rw [hc] at h1
      injection h1 with h1
      subst h1
      obtain ⟨g1,g2⟩:=hgd _ (z9c (zHE (sg:=sg) hp).2 (zDN _))
      have:=zZV g1 kga (by omega) kg9 (kbox _ _ h3 h2) (by omega) (by omega)
      rw [g2,zDT] at this
      exact this
    ·intro q hq
     obtain ⟨p,hp,rfl⟩:=lA4.1 hq
     have:=(hr.pa p hp).1
     simp [z3u];omega
end Go.Ab
