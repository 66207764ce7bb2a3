/- Part 35 of the proof. -/
import Derived.Test.YteaellpidegbiaaGreatDoorA34
set_option linter.unusedVariables false
set_option linter.unusedSimpArgs false
namespace Go.Ab
open Go
set_option maxRecDepth 100000
set_option maxHeartbeats 8000000
section steps
variable {H:Heap} {al:AL} {K:KL} {Qp:AL→AV→Heap→Prop} {os:List IOper} {d:Nat} {x y z:Arg}
theorem z4T {f:FuncId} {as_:List Arg} {args:List AV} {rid:Nat} {s:Bt} {r:PR (Ex × Nat)} (ha:evsL al as_=args) (hc:ACall PP f args H (PePost H rid s r))
  (h:∀ op t nl l q H',r=.ok (.mk op t nl l,q)→Mod H rid (RB s q) H'→VV PP os ((d,.agg [.int .i64 op,.str t,lst nl l])::al) H' K Qp) (hp:∀ q H',r=.bad→Mod H rid (RB s q) H'→Qp al (wrongA q) H') :
  VV PP (⟨some d,.callF f,as_,none,none⟩::os) al H K Qp:=by
 refine z1H ha hc ?_ ?_
 ·rintro v H' (⟨v',hv,e,q,he,rfl,hm⟩ | ⟨v',hv,_⟩)
  ·cases hv
   obtain ⟨op,t,nl,l⟩:=e
   rw [z0X]
   exact h _ _ _ _ _ _ he hm
  ·cases hv
 ·rintro v H' (⟨v',hv,_⟩ | ⟨v',hv,he,q,rfl,hm⟩)
  ·cases hv
  ·cases hv
   exact hp _ _ he hm
theorem st_pev {f:FuncId} {as_:List Arg} {a:AV} {rid:Nat} {s:Bt} {r:PR (Ex × Nat)} (ha:evsL al as_=[.clo (.func f) [a] []]) (hb:hasBody PP f=true) (hc:ACall PP f [a] H (PePost H rid s r))
  (h:∀ op t nl l q H',r=.ok (.mk op t nl l,q)→Mod H rid (RB s q) H'→VV PP os ((d,.agg [.int .i64 op,.str t,lst nl l])::al) H' K Qp) (hp:∀ q H',r=.bad→Mod H rid (RB s q) H'→Qp al (wrongA q) H') :
  VV PP (⟨some d,.callV,as_,none,none⟩::os) al H K Qp:=by
 refine st_callvq (R:=PePost H rid s r) ha hb hc ?_ ?_
 ·rintro v H' (⟨v',hv,e,q,he,rfl,hm⟩ | ⟨v',hv,_⟩)
  ·cases hv
   obtain ⟨op,t,nl,l⟩:=e
   rw [z0X]
   exact h _ _ _ _ _ _ he hm
  ·cases hv
 ·rintro v H' (⟨v',hv,_⟩ | ⟨v',hv,he,q,rfl,hm⟩)
  ·cases hv
  ·cases hv
   exact hp _ _ he hm
theorem st_tk {x:Arg} {rid p:Nat} {s:Bt} (hx:evL al x=.ptr rid 0) (hg:H[rid]? =some (RB s p)) (hp:p≤s.length) (hs:s.length≤6000)
  (h:∀ t H',tkn s p=.ok (t,skp s p)→skp s p+t.length≤s.length→H'[rid]? =some (RB s (skp s p))→Mod H rid (RB s (skp s p)) H'→VV PP os ((d,.str t)::al) H' K Qp)
  (hq:∀ H',tkn s p=.bad→Mod H rid (RB s (skp s p)) H'→Qp al (wrongA (skp s p)) H'):VV PP (⟨some d,.callF 239,[x],none,none⟩::os) al H K Qp:=by
 have hm:Mod H rid (RB s (skp s p)) (H.set rid (RB s (skp s p))):=(Mod.refl hg).put
 refine z1H (args:=[.ptr rid 0]) (by rw [←hx];rfl) (c239 hg hp (by omega)) ?_ ?_
 ·rintro v H' ⟨rfl,h2⟩
  cases ht:tok (s.drop (skp s p)) with
  | none=>rw [ht] at h2;cases h2
  | some t =>
   rw [ht] at h2
   injection h2 with h2
   subst h2
   have h3:=tok_len ht
   have h4:=z5A hp
   rw [List.length_drop] at h3
   exact h t _ (by unfold tkn;rw [ht]) (by omega) hm.get hm
 ·rintro v H' ⟨rfl,h2⟩
  cases ht:tok (s.drop (skp s p)) with
  | some t=>rw [ht] at h2;cases h2
  | none =>
   rw [ht] at h2
   injection h2 with h2
   subst h2
   exact hq _ (by unfold tkn;rw [ht]) hm
theorem st_tak {x:Arg} {rid p:Nat} {s t:Bt} (ha:evsL al [x,y]=[.ptr rid 0,.str t]) (hg:H[rid]? =some (RB s p)) (hp:p≤s.length) (hs:s.length≤6000)
  (h:∀ b q H',tak t s p=.ok (b,q)→q≤s.length→H'[rid]? =some (RB s q)→Mod H rid (RB s q) H'→VV PP os ((d,.bool b)::al) H' K Qp)
  (hq:∀ q H',tak t s p=.bad→Mod H rid (RB s q) H'→Qp al (wrongA q) H'):VV PP (⟨some d,.callF 258,[x,y],none,none⟩::os) al H K Qp:=by
 refine z1H ha (c258 hg hp (by omega)) ?_ ?_
 ·rintro v H' hv
  unfold TakP at hv
  cases ht:tak t s p with
  | oof=>exact absurd ht (tak_no _ _ _)
  | bad=>rw [ht] at hv;obtain ⟨q,hv,_⟩:=hv;cases hv
  | ok w =>
   obtain ⟨b,q⟩:=w
   rw [ht] at hv
   obtain ⟨hv,rfl⟩:=hv
   injection hv with hv
   subst hv
   have hm:Mod H rid (RB s q) (H.set rid (RB s q)):=(Mod.refl hg).put
   exact h b q _ ht (z2S ht hp).2.1 hm.get hm
 ·rintro v H' hv
  unfold TakP at hv
  cases ht:tak t s p with
  | oof=>exact absurd ht (tak_no _ _ _)
  | ok w=>rw [ht] at hv;obtain ⟨hv,_⟩:=hv;cases hv
  | bad =>
   rw [ht] at hv
   obtain ⟨q,hv,rfl⟩:=hv
   injection hv with hv
   subst hv
   exact hq q _ ht (Mod.refl hg).put
theorem z0T {c:Blk} {k:Nat} {zs ws:List AV} (hc:c=.cells zs) (hx:evL al x=.ptr H.length 0) (hy:evL al y=.agg ws) (hw:ws.length=k) (hl:zs.length=k) (hs:ws.all AV.scalar=true)
  (h:VV PP os al (H++[.cells ws]) K Qp):VV PP (⟨none,.i (.m (.store k)),[x,y],none,none⟩::os) al (H++[c]) K Qp:=by
 subst hc
 refine z1J (.agg ws) hx hy (cs:=zs) (cs':=ws) (by rw [List.getElem?_append_right (Nat.le_refl _),Nat.sub_self];rfl) (by simp [AV.shaped,AV.cells,hw,hl];simpa using hs) (setAt_all (by simp [AV.cells,hw,hl])) (by simp) h
theorem z0H {id:Nat} {a b c a' b' c':AV} (hx:evL al x=.ptr id 0) (hy:evL al y=.agg [a',b',c']) (hg:H[id]? =some (.cells [a,b,c])) (hs:([a',b',c']:List AV).all AV.scalar=true)
  (h:VV PP os al (H.set id (.cells [a',b',c'])) K Qp):VV PP (⟨none,.i (.m (.store 3)),[x,y],none,none⟩::os) al H K Qp :=
 z1J (.agg [a',b',c']) hx hy hg (by simp only [AV.shaped,AV.cells,hs];rfl) rfl rfl h
theorem z0K {c:Blk}:(H++[c])[H.length]? =some c:=by rw [List.getElem?_append_right (Nat.le_refl _),Nat.sub_self];rfl
theorem z1E {t id:Nat} {a b c:AV} (ht:look al t=.ptr id 0) (hg:H[id]? =some (.cells [a,b,c])):resultL [.cell t (some 3)] al H=some (.agg [a,b,c]):=by
 simp only [resultL,resVL,rload,ht,hg];rfl
theorem st_appE {id:Nat} {L:List Ex} {op:Int} {t:Bt} {nl:Bool} {l:List Ex} {X:Heap} (hx:evL al x=.sl id 0 L.length 3) (hy:evL al y=.sl X.length 0 1 3) (hg:X[id]? =some (.cells (flatE L))) (hn:L.length≤1000000)
  (h:∀ H',H'[X.length+1]? =some (.cells (flatE (L++[.mk op t nl l])))→(∀ j b,j≠id→X[j]? =some b→H'[j]? =some b)→X.length+1<H'.length→VV PP os ((d,.sl (X.length+1) 0 (L++[Ex.mk op t nl l]).length 3)::al) H' K Qp) :
  VV PP (⟨some d,.i (.m (.append 3 48)),[x,y],none,none⟩::os) al (X++[.cells (flatE [.mk op t nl l])]) K Qp:=by
 have hlt:=(List.getElem?_eq_some_iff.1 hg).1
 refine st_appG (m:=1) (ys:=flatE [.mk op t nl l]) hx (z0F hg) (by rw [z2K];omega) (by rw [hy];exact srcOf_last (by rw [z2K];rfl)) (z4B _) (by omega) ?_
 have e1:((flatE L).drop 0).take (L.length*3)=flatE L:=by rw [List.drop_zero,←z2K,List.take_length]
 rw [e1,←z2L]
 have e2:(X++[Blk.cells (flatE [.mk op t nl l])]:Heap).length=X.length+1:=by simp
 have e3:L.length+1=(L++[Ex.mk op t nl l]).length:=by simp
 rw [e2,e3]
 refine h _ ?_ ?_ (by simp)
 ·rw [List.getElem?_append_right (by simp)];simp
 ·intro j b hj hb
  have:=(List.getElem?_eq_some_iff.1 hb).1
  rw [List.getElem?_append_left (by simp;omega),List.getElem?_set,if_neg (fun e=>hj e.symm)]
  exact z0F hb
end steps
abbrev B0:Blk:=.cells [.int .i64 0,.str [],.nilslice]
theorem z0R {α β:Type} {a:α} {f:α→PR β}:(PR.ok a).bind f=f a:=rfl
theorem z2M {α β:Type} {f:α→PR β}:(PR.bad:PR α).bind f=.bad:=rfl
theorem c294 (n:Nat) (hk:∀ m,m≤n→WOk m 295 .ahead):WOk (n+1) 294 .chain:=by
 intro rid s p H hg hp hs hne
 have hrl:=(List.getElem?_eq_some_iff.1 hg).1
 simp only [pe] at hne ⊢
 refine ACall.sealed (n:=H.length) ?_
 refine is294.c1 z0V mixed rfl ?_
 rw [List.append_nil]
 have m0:Mod H rid (RB s p) (H++[B0]):=(Mod.refl hg).app _
 refine z0B ?_
 have hne1:pe n .ahead s p≠.oof:=fun e=>hne (by rw [e];rfl)
 refine z4T (args:=[.ptr rid 0]) (by rfl) (hk n (Nat.le_refl _) m0.get hp hs hne1) ?_ ?_
 rotate_left
 ·intro q H' he hm
  exact z1Q (by rw [he];rfl) (m0.trans hm)
 intro op t nl l q H1 he hm
 have hb0:H1[H.length]? =some B0:=hm.old _ _ (by omega) (by rw [List.getElem?_append_right (Nat.le_refl _),Nat.sub_self];rfl)
 obtain ⟨a1,a2,a3,a4⟩:=pe_ok _ _ _ _ _ rfl he hp
 have a4:=a4 rfl
 simp only at a1 a2 a4
 rw [he,z0R] at hne ⊢
 refine z1A (out:=flatE [.mk op t nl l]) (by rw [z0U];rfl) ?_
 have m1:=(m0.trans hm).app [.cells (flatE [.mk op t nl l])]
 have hb1:=z0F (G:=[.cells (flatE [.mk op t nl l])]) hb0
 have hli:(H1++[.cells (flatE [.mk op t nl l])])[H1.length]? =some (.cells (flatE [.mk op t nl l])):=by rw [List.getElem?_append_right (Nat.le_refl _),Nat.sub_self];rfl
 have hl1:=(m0.trans hm).len
 have hl2:=(List.getElem?_eq_some_iff.1 hb0).1
 generalize (H1++[.cells (flatE [.mk op t nl l])]:Heap)=H2 at *
 generalize H1.length=id1 at *
 generalize hx:pe n (.chainL [.mk op t nl l]) s q=xx at *
 refine z0B ?_
 refine z1S (fun m al H'=>∃ id L q,al=[(0,.ptr rid 0),(2,.ptr H.length 0),(3,.sl id 0 L.length 3)]∧H'[id]? =some (.cells (flatE L))∧H.length<id∧H'[H.length]? =some B0∧Mod H rid (RB s q) H'∧q≤s.length ∧
  m≤n∧pe m (.chainL L) s q=xx∧L≠[]∧L.length≤q) n ⟨id1,[.mk op t nl l],q,rfl,hli,by omega,hb1,m1,a2,Nat.le_refl _,hx,by simp,by simp;omega⟩ ?_
 clear hli hb1 m1 a1 a2 a3 a4 hb0 hm he hl1 hl2 hx m0 hne1
 rintro m _ H1 ⟨id,L,q,rfl,hli,hid,hb0,hm,hq,hmn,hx,hL,hLq⟩
 cases m with
 | zero=>exact absurd hx.symm hne
 | succ m =>
 simp only [pe] at hx
 refine z0B ?_
 refine st_tk (by rfl) hm.get hq hs ?_ ?_
 rotate_left
 ·intro H' ht hm2
  exact z1Q (by rw [←hx,ht];rfl) (hm.trans hm2)
 intro t H2 ht htl hg2 hm2
 rw [ht,z0R] at hx
 simp only at hx
 have hsk:=skp_ge s q
 have hli2:=hm2.old _ _ (by omega) hli
 have hb2:=hm2.old _ _ (by omega) hb0
 have m2:=hm.trans hm2
 refine z0G rfl (c296 (by omega) _) ?_
 refine z0B ?_
 cases hbg:bgn t
 ·
  rw [hbg] at hx
  simp only [Bool.false_eq_true,if_false] at hx
  refine z0B ?_
  have hne2:id≠H.length:=by omega
  cases h1:((L.length:Int)==1)
  ·have e1:oneOr 4 L=nd 4 L:=by
    match L,hL,h1 with
    | [_],_,h1=>simp at h1
    | _::_::_,_,_=>rfl
   rw [e1] at hx
   refine z0B ?_
   refine z0L rfl rfl ?_
   refine z0H rfl rfl hb2 rfl ?_
   refine z0B ?_
   exact z1G (z1E rfl (z0C hb2)) (fin_node hx.symm (z0A hli2 hne2) (by omega) (m2.own (Nat.le_refl _) (by omega)) hrl)
  ·match L,hL,h1,hli2 with
   | [.mk op t' nl l],_,_,hli2 =>
    rw [z0U] at hli2
    refine z0B ?_
    refine z2X (i:=0) rfl rfl (by simp) ?_
    refine z0B ?_
    refine z0H rfl rfl hb2 z1C ?_
    refine z0B ?_
    exact z1G (z1E rfl (z0C hb2)) (z4J (z0X _ _ _ _).symm hx.symm (m2.own (Nat.le_refl _) (by omega)))
   | _::_::_,_,h1,_=>simp at h1;omega
 ·
  rw [hbg] at hx
  simp only [if_true] at hx
  have hne3:pe m .ahead s (skp s q)≠.oof:=fun e=>hne (by rw [←hx,e];rfl)
  refine z0B ?_
  refine z4T (args:=[.ptr rid 0]) (by rfl) (hk m (by omega) hg2 (by omega) hs hne3) ?_ ?_
  rotate_left
  ·intro q' H' he hm3
   exact z1Q (by rw [←hx,he];rfl) (m2.trans hm3)
  intro op t' nl l q3 H3 he hm3
  rw [he,z0R] at hx
  obtain ⟨a1,a2,_,a4⟩:=pe_ok _ _ _ _ _ rfl he (by omega)
  have a4:=a4 rfl
  simp only at a1 a2 a4 hx
  have hli3:=hm3.old _ _ (by omega) hli2
  have hb3:=hm3.old _ _ (by omega) hb2
  have m3:=m2.trans hm3
  refine z1M ?_
  refine z0T rfl rfl rfl rfl rfl z1C ?_
  have hla:(H3++[Blk.cells [.int .i64 op,.str t',lst nl l]])[H3.length]? =some (.cells [.int .i64 op,.str t',lst nl l]):=z0K
  have m4:=m3.app [Blk.cells [.int .i64 op,.str t',lst nl l]]
  have hli4:=z0F (G:=[Blk.cells [.int .i64 op,.str t',lst nl l]]) hli3
  have hb4:=z0F (G:=[Blk.cells [.int .i64 op,.str t',lst nl l]]) hb3
  generalize hX:(H3++[Blk.cells [.int .i64 op,.str t',lst nl l]]:Heap)=X at *
  refine z0B ?_
  refine z1A (out:=flatE [.mk op t' nl l]) (by rw [z0U];rfl) ?_
  refine st_appE (L:=L) (id:=id) (by rfl) (by rfl) hli4 (by omega) ?_
  intro H5 hl5 ho5 hlt5
  have hXl:=(List.getElem?_eq_some_iff.1 hb4).1
  refine z0B ?_
  exact ⟨m,by omega,_,L++[.mk op t' nl l],q3,rfl,hl5,by omega,ho5 _ _ (by omega) hb4,⟨ho5 _ _ (by omega) m4.get,fun j b hj hb=>ho5 _ _ (by have:=(List.getElem?_eq_some_iff.1 hb).1;omega) (m4.old j b hj hb),by have:=m4.len;omega⟩,a2,by omega,hx,by simp,by simp;omega⟩
theorem c287 (n:Nat) {op:Int} {sg:Bt} {nx:Md} {g:FuncId} (hgb:hasBody PP g=true) (hk:∀ m,m≤n→WOk m g nx) (hsn:nx.sgn=true) (hfn:nx.fn=true) (hl1:sg.length=1)
  {rid:Nat} {s:Bt} {p:Nat} {H:Heap} (hg:H[rid]? =some (RB s p)) (hp:p≤s.length) (hs:s.length≤6000) (hne:pe (n+1) (.all op sg nx) s p≠.oof) :
  ACall PP 287 [.ptr rid 0,.int .i64 op,.str sg,.clo (.func g) [.ptr rid 0] []] H (PePost H rid s (pe (n+1) (.all op sg nx) s p)):=by
 have hrl:=(List.getElem?_eq_some_iff.1 hg).1
 simp only [pe] at hne ⊢
 refine ACall.sealed (n:=H.length) ?_
 refine is287.c4 z0V mixed rfl ?_
 rw [List.append_nil]
 have m0:Mod H rid (RB s p) (H++[B0]):=(Mod.refl hg).app _
 refine z0B ?_
 have hne1:pe n nx s p≠.oof:=fun e=>hne (by rw [e];rfl)
 refine st_pev (by rfl) hgb (hk n (Nat.le_refl _) m0.get hp hs hne1) ?_ ?_
 rotate_left
 ·intro q H' he hm
  exact z1Q (by rw [he];rfl) (m0.trans hm)
 intro op1 t nl l q H1 he hm
 have hb0:H1[H.length]? =some B0:=hm.old _ _ (by omega) z0K
 obtain ⟨a1,a2,a3,a4⟩:=pe_ok _ _ _ _ _ hsn he hp
 have a4:=a4 hfn
 simp only at a1 a2 a4
 rw [he,z0R] at hne ⊢
 refine z1A (out:=flatE [.mk op1 t nl l]) (by rw [z0U];rfl) ?_
 have m1:=(m0.trans hm).app [.cells (flatE [.mk op1 t nl l])]
 have hb1:=z0F (G:=[.cells (flatE [.mk op1 t nl l])]) hb0
 have hli:(H1++[.cells (flatE [.mk op1 t nl l])])[H1.length]? =some (.cells (flatE [.mk op1 t nl l])):=z0K
 have hl2:=(List.getElem?_eq_some_iff.1 hb0).1
 generalize (H1++[.cells (flatE [.mk op1 t nl l])]:Heap)=H2 at *
 generalize H1.length=id1 at *
 generalize hx:pe n (.allL op sg nx [.mk op1 t nl l]) s q=xx at *
 refine z0B ?_
 refine z1S (fun m al H'=>∃ id L q,al=[(0,.ptr rid 0),(1,.int .i64 op),(2,.str sg),(3,.clo (.func g) [.ptr rid 0] []),(8,.ptr H.length 0),(9,.sl id 0 L.length 3)]∧H'[id]? =some (.cells (flatE L))∧H.length<id∧H'[H.length]? =some B0∧Mod H rid (RB s q) H'∧q≤s.length ∧
  m≤n∧pe m (.allL op sg nx L) s q=xx∧L≠[]∧L.length≤q) n ⟨id1,[.mk op1 t nl l],q,rfl,hli,by omega,hb1,m1,a2,Nat.le_refl _,hx,by simp,by simp;omega⟩ ?_
 clear hli hb1 m1 a1 a2 a3 a4 hb0 hm he hl2 hx m0 hne1
 rintro m _ H1 ⟨id,L,q,rfl,hli,hid,hb0,hm,hq,hmn,hx,hL,hLq⟩
 cases m with
 | zero=>exact absurd hx.symm hne
 | succ m =>
 simp only [pe] at hx
 refine z0B ?_
 refine st_tak (by rfl) hm.get hq hs ?_ ?_
 rotate_left
 ·intro q' H' ht hm2
  exact z1Q (by rw [←hx,ht];rfl) (hm.trans hm2)
 intro b q2 H2 ht hq2 hg2 hm2
 rw [ht,z0R] at hx
 simp only at hx
 obtain ⟨t1,t2,t3⟩:=z2S ht hq
 simp only at t1 t2 t3
 have hli2:=hm2.old _ _ (by omega) hli
 have hb2:=hm2.old _ _ (by omega) hb0
 have m2:=hm.trans hm2
 refine z0B ?_
 cases b
 ·
  simp only [Bool.false_eq_true,if_false] at hx
  refine z0B ?_
  have hne2:id≠H.length:=by omega
  cases h1:((L.length:Int)==1)
  ·have e1:oneOr op L=nd op L:=by
    match L,hL,h1 with
    | [_],_,h1=>simp at h1
    | _::_::_,_,_=>rfl
   rw [e1] at hx
   refine z0B ?_
   refine z0L rfl rfl ?_
   refine z0H rfl rfl hb2 rfl ?_
   refine z0B ?_
   exact z1G (z1E rfl (z0C hb2)) (fin_node hx.symm (z0A hli2 hne2) (by omega) (m2.own (Nat.le_refl _) (by omega)) hrl)
  ·match L,hL,h1,hli2 with
   | [.mk op' t' nl l],_,_,hli2 =>
    rw [z0U] at hli2
    refine z0B ?_
    refine z2X (i:=0) rfl rfl (by simp) ?_
    refine z0B ?_
    refine z0H rfl rfl hb2 z1C ?_
    refine z0B ?_
    exact z1G (z1E rfl (z0C hb2)) (z4J (z0X _ _ _ _).symm hx.symm (m2.own (Nat.le_refl _) (by omega)))
   | _::_::_,_,h1,_=>simp at h1;omega
 ·
  simp only [if_true] at hx
  have t3:=t3 rfl
  rw [hl1] at t3
  have hne3:pe m nx s q2≠.oof:=fun e=>hne (by rw [←hx,e];rfl)
  refine z0B ?_
  refine st_pev (by rfl) hgb (hk m (by omega) hg2 (by omega) hs hne3) ?_ ?_
  rotate_left
  ·intro q' H' he hm3
   exact z1Q (by rw [←hx,he];rfl) (m2.trans hm3)
  intro op' t' nl l q3 H3 he hm3
  rw [he,z0R] at hx
  obtain ⟨a1,a2,_,a4⟩:=pe_ok _ _ _ _ _ hsn he (by omega)
  have a4:=a4 hfn
  simp only at a1 a2 a4 hx
  have hli3:=hm3.old _ _ (by omega) hli2
  have hb3:=hm3.old _ _ (by omega) hb2
  have m3:=m2.trans hm3
  refine z1M ?_
  refine z0T rfl rfl rfl rfl rfl z1C ?_
  have hla:(H3++[Blk.cells [.int .i64 op',.str t',lst nl l]])[H3.length]? =some (.cells [.int .i64 op',.str t',lst nl l]):=z0K
  have m4:=m3.app [Blk.cells [.int .i64 op',.str t',lst nl l]]
  have hli4:=z0F (G:=[Blk.cells [.int .i64 op',.str t',lst nl l]]) hli3
  have hb4:=z0F (G:=[Blk.cells [.int .i64 op',.str t',lst nl l]]) hb3
  generalize hX:(H3++[Blk.cells [.int .i64 op',.str t',lst nl l]]:Heap)=X at *
  refine z0B ?_
  refine z1A (out:=flatE [.mk op' t' nl l]) (by rw [z0U];rfl) ?_
  refine st_appE (L:=L) (id:=id) (by rfl) (by rfl) hli4 (by omega) ?_
  intro H5 hl5 ho5 hlt5
  have hXl:=(List.getElem?_eq_some_iff.1 hb4).1
  refine z0B ?_
  exact ⟨m,by omega,_,L++[.mk op' t' nl l],q3,rfl,hl5,by omega,ho5 _ _ (by omega) hb4,⟨ho5 _ _ (by omega) m4.get,fun j b hj hb=>ho5 _ _ (by have:=(List.getElem?_eq_some_iff.1 hb).1;omega) (m4.old j b hj hb),by have:=m4.len;omega⟩,a2,by omega,hx,by simp,by simp;omega⟩
theorem c277 (n:Nat) (hgb:hasBody PP 288=true) (hk:∀ m,m+2≤n→WOk m 288 .and):WOk n 277 .or:=by
 intro rid s p H hg hp hs hne
 cases n with
 | zero=>exact absurd rfl hne
 | succ n =>
 simp only [pe] at hne ⊢
 cases n with
 | zero=>exact absurd rfl hne
 | succ n =>
 have hrl:=(List.getElem?_eq_some_iff.1 hg).1
 refine ACall.sealed (n:=H.length) ?_
 refine is277.c1 z0V mixed rfl ?_
 rw [List.append_nil]
 have m0:Mod H rid (RB s p) (H++[B0]):=(Mod.refl hg).app _
 refine z0B ?_
 refine z4T (args:=[.ptr rid 0,.int .i64 5,.str [124],.clo (.func 288) [.ptr rid 0] []]) (by rfl) (c287 n hgb (fun m hm=>hk m (by omega)) rfl rfl rfl m0.get hp hs hne) ?_ ?_
 rotate_left
 ·intro q H' he hm
  exact z1Q he (m0.trans hm)
 intro op t nl l q H1 he hm
 have hb0:H1[H.length]? =some B0:=hm.old _ _ (by omega) z0K
 refine z0H rfl rfl hb0 z1C ?_
 refine z0B ?_
 exact z1G (z1E rfl (z0C hb0)) (z4J (z0X _ _ _ _).symm he ((m0.trans hm).own (Nat.le_refl _) (by omega)))
theorem sealX_cells {id:Nat} {cs:List AV} {x y:AV} (h:SealX id cs x y):x.cells.length=y.cells.length∧∀ i,SealX id cs (x.cells.getD i .top) (y.cells.getD i .top):=by
 have one:∀ {x y:AV},SealX id cs x y→x.cells=[x]→y.cells=[y]→x.cells.length=y.cells.length∧∀ i,SealX id cs (x.cells.getD i .top) (y.cells.getD i .top):=by
  intro x y h hx hy
  rw [hx,hy]
  refine ⟨rfl,fun i=>?_⟩
  match i with
  | 0=>exact h
  | i+1=>exact .refl _
 cases h with
 | base _ _ h =>
  cases h with
  | refl=>exact ⟨rfl,fun i=>.refl _⟩
  | sl off n sz xs hx hs hf hb=>exact one (.base _ _ (.sl off n sz xs hx hs hf hb)) rfl rfl
  | ptr off ho=>exact one (.base _ _ (.ptr off ho)) rfl rfl
  | agg l l' hl r=>exact ⟨hl,fun i=>.base _ _ (r i)⟩
  | tuple l l' hl r=>exact one (.base _ _ (.tuple l l' hl r)) rfl rfl
  | iface t v v' r=>exact one (.base _ _ (.iface t v v' r)) rfl rfl
 | agg l l' hl r=>exact ⟨hl,r⟩
 | tuple l l' hl r=>exact one (.tuple l l' hl r) rfl rfl
 | list sz xs xs' hl hsz r=>exact one (.list sz xs xs' hl hsz r) rfl rfl
theorem SealsX.ctx3 {n:Nat} {C:AV→AV} (hC:∀ {id cs x y},SealX id cs x y→x.cells.length=3→SealX id cs (C x) (C y)) {v u:AV} {H K:Heap} (h:SealsX n v H u K) (hv:v.cells.length=3):SealsX n (C v) H (C u) K:=by
 induction h with
 | done v H=>exact .done _ _
 | step id cs hid hg hs h ih=>exact .step id cs hid hg (hC hs hv) (ih (by rw [←(sealX_cells hs).1];exact hv))
theorem SealsX.mono {n m:Nat} (hm:m≤n) {v u:AV} {H K:Heap} (h:SealsX n v H u K):SealsX m v H u K:=by
 induction h with
 | done v H=>exact .done _ _
 | step id cs hid hg hs h ih=>exact .step id cs (by omega) hg hs ih
inductive Nest (lo:Nat) (H:Heap):Nat→List AV→Ex→Prop
 | base (m:Nat) (op:Int) (t:Bt) (nl:Bool) (l:List Ex):Nest lo H m [.int .i64 op,.str t,lst nl l] (.mk op t nl l)
 | node (m id:Nat) (op:Int) (cs:List AV) (a:Ex) (r:List Ex) (hid:lo≤id) (hlt:id<m) (hg:H[id]? =some (.cells (cs++flatE r))) (hcs:cs.length=3) (h:Nest lo H id cs a) :
   Nest lo H m [.int .i64 op,.str [],.sl id 0 (1+r.length) 3] (nd op (a::r))
theorem Nest.mono {lo:Nat} {H H':Heap} {m m':Nat} {cs:List AV} {e:Ex} (h:Nest lo H m cs e) (hm:m≤m') (hH:∀ j b,lo≤j→j<m→H[j]? =some b→H'[j]? =some b):Nest lo H' m' cs e:=by
 induction h generalizing m' with
 | base m op t nl l=>exact .base _ _ _ _ _
 | node m id op cs a r hid hlt hg hcs h ih=>exact .node _ id op cs a r hid (by omega) (hH _ _ hid hlt hg) hcs (ih (Nat.le_refl _) fun j b h1 h2 h3=>hH j b h1 (by omega) h3)
theorem Nest.seals {lo:Nat} {H:Heap} {m:Nat} {cs:List AV} {e:Ex} (h:Nest lo H m cs e):cs.length=3∧∀ H':Heap,(∀ j b,lo≤j→j<m→H[j]? =some b→H'[j]? =some b)→∃ K,SealsX lo (.agg cs) H' (enc e) K:=by
 induction h with
 | base m op t nl l=>exact ⟨rfl,fun H' _=>⟨H',by rw [z0X];exact .done _ _⟩⟩
 | node m id op cs a r hid hlt hg hcs h ih =>
  refine ⟨rfl,fun H' hH=>?_⟩
  have hg':=hH _ _ hid hlt hg
  obtain ⟨K,hK⟩:=ih.2 (H'.set id .dead) fun j b h1 h2 h3=>by
   rw [List.getElem?_set,if_neg (by omega)];exact hH j b h1 (by omega) h3
  refine ⟨K,.step id _ hid hg' (v':=.agg [.int .i64 op,.str [],.list 3 (.agg cs::r.map enc)]) (.base _ _ (.agg _ _ rfl fun i=>?_)) ?_⟩
  ·match i with
   | 0=>exact .refl _
   | 1=>exact .refl _
   | 2 =>
    refine .sl 0 _ 3 _ (by simp;omega) (fun x hx=>?_) ?_ ?_
    ·rcases List.mem_cons.1 hx with rfl | hx
     ·exact hcs
     ·obtain ⟨e,_,rfl⟩:=List.mem_map.1 hx
      obtain ⟨a,b,c,d⟩:=e;rw [z0X];rfl
    ·have e1:(cs++flatE r).length=(1+r.length)*3:=by rw [List.length_append,z2K,hcs];omega
     rw [List.drop_zero,←e1,List.take_length];rfl
    ·rw [List.length_append,z2K,hcs];omega
   | i+3=>exact .refl _
  ·have e2:enc (nd op (a::r))=.agg [.int .i64 op,.str [],.list 3 (enc a::r.map enc)]:=by
    unfold nd;rw [z0X];simp [lst]
   rw [e2]
   refine SealsX.ctx3 (C:=fun x=>.agg [.int .i64 op,.str [],.list 3 (x::r.map enc)]) ?_ hK hcs
   intro id cs' x y hs hx
   obtain ⟨s1,s2⟩:=sealX_cells hs
   refine .agg _ _ rfl fun i=>?_
   match i with
   | 0=>exact .refl _
   | 1=>exact .refl _
   | 2 =>
    refine .list 3 _ _ (by simp) (fun z hz=>?_) fun j=>?_
    ·rcases List.mem_cons.1 hz with rfl | hz
     ·omega
     ·obtain ⟨e,_,rfl⟩:=List.mem_map.1 hz
      obtain ⟨a,b,c,d⟩:=e;rw [z0X];rfl
    ·have f1:flat (x::r.map enc)=x.cells++flat (r.map enc):=rfl
     have f2:flat (y::r.map enc)=y.cells++flat (r.map enc):=rfl
     rw [f1,f2]
     by_cases hj:j<x.cells.length
     ·have:=s2 j
      rw [List.getD_eq_getElem?_getD,List.getD_eq_getElem?_getD] at this ⊢
      rw [List.getElem?_append_left hj,List.getElem?_append_left (by omega)];exact this
     ·rw [List.getD_eq_getElem?_getD,List.getD_eq_getElem?_getD,List.getElem?_append_right (by omega),List.getElem?_append_right (by omega),s1]
      exact .refl _
   | i+3=>exact .refl _
theorem c276 (n:Nat) {op:Int} {sg:Bt} {nx:Md} {g:FuncId} (hgb:hasBody PP g=true) (hk:∀ m,m≤n→WOk m g nx) (hsn:nx.sgn=true) (hfn:nx.fn=true) (hl1:sg.length=1)
  {rid:Nat} {s:Bt} {p:Nat} {H:Heap} (hg:H[rid]? =some (RB s p)) (hp:p≤s.length) (hs:s.length≤6000) (hne:pe (n+1) (.left op sg nx) s p≠.oof) :
  ACall PP 276 [.ptr rid 0,.int .i64 op,.str sg,.clo (.func g) [.ptr rid 0] []] H (PePost H rid s (pe (n+1) (.left op sg nx) s p)):=by
 have hrl:=(List.getElem?_eq_some_iff.1 hg).1
 simp only [pe] at hne ⊢
 refine ACall.sealed (n:=H.length) ?_
 refine is276.c4 z0V mixed rfl ?_
 rw [List.append_nil]
 have m0:Mod H rid (RB s p) (H++[B0]):=(Mod.refl hg).app _
 refine z0B ?_
 have hne1:pe n nx s p≠.oof:=fun e=>hne (by rw [e];rfl)
 refine st_pev (by rfl) hgb (hk n (Nat.le_refl _) m0.get hp hs hne1) ?_ ?_
 rotate_left
 ·intro q H' he hm
  exact z1Q (by rw [he];rfl) (m0.trans hm)
 intro op1 t nl l q H1 he hm
 have hb0:H1[H.length]? =some B0:=hm.old _ _ (by omega) z0K
 obtain ⟨a1,a2,a3,a4⟩:=pe_ok _ _ _ _ _ hsn he hp
 have a4:=a4 hfn
 simp only at a1 a2 a4
 rw [he,z0R] at hne ⊢
 refine z1M ?_
 refine z0T rfl rfl rfl rfl rfl z1C ?_
 have m1:=(m0.trans hm).app [.cells [.int .i64 op1,.str t,lst nl l]]
 have hb1:=z0F (G:=[.cells [.int .i64 op1,.str t,lst nl l]]) hb0
 have hla:(H1++[Blk.cells [.int .i64 op1,.str t,lst nl l]])[H1.length]? =some (.cells [.int .i64 op1,.str t,lst nl l]):=z0K
 have hl2:=(List.getElem?_eq_some_iff.1 hb0).1
 have hll:(H1++[Blk.cells [.int .i64 op1,.str t,lst nl l]]:Heap).length=H1.length+1:=by simp
 generalize (H1++[Blk.cells [.int .i64 op1,.str t,lst nl l]]:Heap)=H2 at *
 generalize H1.length=b9 at *
 generalize hx:pe n (.leftL op sg nx (.mk op1 t nl l)) s q=xx at *
 refine z0B ?_
 refine z1S (fun m al H'=>∃ c0 c1 c2 a q,al=[(0,.ptr rid 0),(1,.int .i64 op),(2,.str sg),(3,.clo (.func g) [.ptr rid 0] []),(8,.ptr H.length 0),(9,.ptr b9 0)]∧H'[b9]? =some (.cells [c0,c1,c2])∧([c0,c1,c2]:List AV).all AV.scalar=true ∧
  Nest (b9+1) H' H'.length [c0,c1,c2] a∧H'[H.length]? =some B0∧Mod H rid (RB s q) H'∧q≤s.length∧m≤n∧pe m (.leftL op sg nx a) s q=xx) n
  ⟨_,_,_,.mk op1 t nl l,q,rfl,hla,z1C,.base _ _ _ _ _,hb1,m1,a2,Nat.le_refl _,hx⟩ ?_
 clear hla hb1 m1 a1 a2 a3 a4 hb0 hm he hx m0 hne1 hll
 rintro m _ H1 ⟨c0,c1,c2,a,q,rfl,h9,hsc,hN,hb0,hm,hq,hmn,hx⟩
 cases m with
 | zero=>exact absurd hx.symm hne
 | succ m =>
 simp only [pe] at hx
 refine z0B ?_
 refine st_tak (by rfl) hm.get hq hs ?_ ?_
 rotate_left
 ·intro q' H' ht hm2
  exact z1Q (by rw [←hx,ht];rfl) (hm.trans hm2)
 intro b q2 H2 ht hq2 hg2 hm2
 rw [ht,z0R] at hx
 simp only at hx
 obtain ⟨t1,t2,t3⟩:=z2S ht hq
 simp only at t1 t2 t3
 have h92:=hm2.old _ _ (by omega) h9
 have hb2:=hm2.old _ _ (by omega) hb0
 have m2:=hm.trans hm2
 have hN2:Nest (b9+1) H2 H2.length [c0,c1,c2] a:=hN.mono hm2.len fun j b h1 h2 h3=>hm2.old j b (by omega) h3
 refine z0B ?_
 cases b
 ·
  simp only [Bool.false_eq_true,if_false] at hx
  refine z0B ?_
  refine z0H rfl rfl hb2 hsc ?_
  refine z0B ?_
  have hN3:Nest (b9+1) (H2.set H.length (.cells [c0,c1,c2])) H2.length [c0,c1,c2] a:=hN2.mono (Nat.le_refl _) fun j b h1 h2 h3=>z0A h3 (by omega)
  obtain ⟨K,hK⟩:=hN3.seals.2 _ fun j b _ _ h=>h
  have hK:=hK.mono (m:=H.length) (by omega)
  have m3:Mod H rid (RB s q2) (H2.set H.length (.cells [c0,c1,c2])):=m2.own (Nat.le_refl _) (by omega)
  exact z1G (z1E rfl (z0C hb2)) (.inl ⟨_,_,K,rfl,hK,a,q2,hx.symm,rfl,m3.seals hrl (Nat.le_refl _) hK⟩)
 ·
  simp only [if_true] at hx
  have t3:=t3 rfl
  rw [hl1] at t3
  have hne3:pe m nx s q2≠.oof:=fun e=>hne (by rw [←hx,e];rfl)
  refine z0B ?_
  refine st_pev (by rfl) hgb (hk m (by omega) hg2 (by omega) hs hne3) ?_ ?_
  rotate_left
  ·intro q' H' he hm3
   exact z1Q (by rw [←hx,he];rfl) (m2.trans hm3)
  intro op' t' nl l q3 H3 he hm3
  rw [he,z0R] at hx
  obtain ⟨a1,a2,_,a4⟩:=pe_ok _ _ _ _ _ hsn he (by omega)
  have a4:=a4 hfn
  simp only at a1 a2 a4 hx
  have h93:=hm3.old _ _ (by omega) h92
  have hb3:=hm3.old _ _ (by omega) hb2
  have m3:=m2.trans hm3
  have hN3:Nest (b9+1) H3 H3.length [c0,c1,c2] a:=hN2.mono hm3.len fun j b h1 h2 h3=>hm3.old j b (by omega) h3
  refine z1M ?_
  refine z0T rfl rfl rfl rfl rfl z1C ?_
  have hla:(H3++[Blk.cells [.int .i64 op',.str t',lst nl l]])[H3.length]? =some (.cells [.int .i64 op',.str t',lst nl l]):=z0K
  have m4:=m3.app [Blk.cells [.int .i64 op',.str t',lst nl l]]
  have h94:=z0F (G:=[Blk.cells [.int .i64 op',.str t',lst nl l]]) h93
  have hb4:=z0F (G:=[Blk.cells [.int .i64 op',.str t',lst nl l]]) hb3
  have hN4:Nest (b9+1) (H3++[Blk.cells [.int .i64 op',.str t',lst nl l]]) (H3++[Blk.cells [.int .i64 op',.str t',lst nl l]]:Heap).length [c0,c1,c2] a:=hN3.mono (by simp) fun j b h1 h2 h3=>z0F h3
  generalize hX:(H3++[Blk.cells [.int .i64 op',.str t',lst nl l]]:Heap)=X at *
  have h9l:=(List.getElem?_eq_some_iff.1 h94).1
  refine z0B ?_
  refine z1A (out:=[c0,c1,c2]++flatE [.mk op' t' nl l]) (by rw [z0U];rfl) ?_
  refine z0L rfl rfl ?_
  refine z0H rfl rfl (z0F h94) rfl ?_
  have m5:=m4.app [Blk.cells ([c0,c1,c2]++flatE [.mk op' t' nl l])]
  have hlast:(X++[Blk.cells ([c0,c1,c2]++flatE [.mk op' t' nl l])])[X.length]? =some (.cells ([c0,c1,c2]++flatE [.mk op' t' nl l])):=z0K
  refine z0B ?_
  refine ⟨m,by omega,_,_,_,nd op [a,.mk op' t' nl l],q3,rfl,z0C (z0F h94),rfl,?_,z0A (z0F hb4) (by omega),m5.own (by omega) (by omega),a2,by omega,hx⟩
  refine .node _ X.length op [c0,c1,c2] a [.mk op' t' nl l] (by omega) (by simp) (z0A hlast (by omega)) rfl (hN4.mono (Nat.le_refl _) fun j b h1 h2 h3=>z0A (z0F h3) (by omega))
theorem c257 (n:Nat) (hgb:hasBody PP 277=true) (hk:∀ m,m+2≤n→WOk m 277 .or):WOk n 257 .but:=by
 intro rid s p H hg hp hs hne
 cases n with
 | zero=>exact absurd rfl hne
 | succ n =>
 simp only [pe] at hne ⊢
 cases n with
 | zero=>exact absurd rfl hne
 | succ n =>
 have hrl:=(List.getElem?_eq_some_iff.1 hg).1
 refine ACall.sealed (n:=H.length) ?_
 refine is257.c1 z0V mixed rfl ?_
 rw [List.append_nil]
 have m0:Mod H rid (RB s p) (H++[B0]):=(Mod.refl hg).app _
 refine z0B ?_
 refine z4T (args:=[.ptr rid 0,.int .i64 7,.str [45],.clo (.func 277) [.ptr rid 0] []]) (by rfl) (c276 n hgb (fun m hm=>hk m (by omega)) rfl rfl rfl m0.get hp hs hne) ?_ ?_
 rotate_left
 ·intro q H' he hm
  exact z1Q he (m0.trans hm)
 intro op t nl l q H1 he hm
 have hb0:H1[H.length]? =some B0:=hm.old _ _ (by omega) z0K
 refine z0H rfl rfl hb0 z1C ?_
 refine z0B ?_
 exact z1G (z1E rfl (z0C hb0)) (z4J (z0X _ _ _ _).symm he ((m0.trans hm).own (Nat.le_refl _) (by omega)))
theorem c288 (n:Nat) (hgb:hasBody PP 292=true) (hk:∀ m,m+2≤n→WOk m 292 .shuffle):WOk n 288 .and:=by
 intro rid s p H hg hp hs hne
 cases n with
 | zero=>exact absurd rfl hne
 | succ n =>
 simp only [pe] at hne ⊢
 cases n with
 | zero=>exact absurd rfl hne
 | succ n =>
 have hrl:=(List.getElem?_eq_some_iff.1 hg).1
 refine ACall.sealed (n:=H.length) ?_
 refine is288.c1 z0V mixed rfl ?_
 rw [List.append_nil]
 have m0:Mod H rid (RB s p) (H++[B0]):=(Mod.refl hg).app _
 refine z0B ?_
 refine z4T (args:=[.ptr rid 0,.int .i64 6,.str [38],.clo (.func 292) [.ptr rid 0] []]) (by rfl) (c287 n hgb (fun m hm=>hk m (by omega)) rfl rfl rfl m0.get hp hs hne) ?_ ?_
 rotate_left
 ·intro q H' he hm
  exact z1Q he (m0.trans hm)
 intro op t nl l q H1 he hm
 have hb0:H1[H.length]? =some B0:=hm.old _ _ (by omega) z0K
 refine z0H rfl rfl hb0 z1C ?_
 refine z0B ?_
 exact z1G (z1E rfl (z0C hb0)) (z4J (z0X _ _ _ _).symm he ((m0.trans hm).own (Nat.le_refl _) (by omega)))
theorem c292 (n:Nat) (hgb:hasBody PP 293=true) (hk:∀ m,m+2≤n→WOk m 293 .ignore):WOk n 292 .shuffle:=by
 intro rid s p H hg hp hs hne
 cases n with
 | zero=>exact absurd rfl hne
 | succ n =>
 simp only [pe] at hne ⊢
 cases n with
 | zero=>exact absurd rfl hne
 | succ n =>
 have hrl:=(List.getElem?_eq_some_iff.1 hg).1
 refine ACall.sealed (n:=H.length) ?_
 refine is292.c1 z0V mixed rfl ?_
 rw [List.append_nil]
 have m0:Mod H rid (RB s p) (H++[B0]):=(Mod.refl hg).app _
 refine z0B ?_
 refine z4T (args:=[.ptr rid 0,.int .i64 15,.str [37],.clo (.func 293) [.ptr rid 0] []]) (by rfl) (c276 n hgb (fun m hm=>hk m (by omega)) rfl rfl rfl m0.get hp hs hne) ?_ ?_
 rotate_left
 ·intro q H' he hm
  exact z1Q he (m0.trans hm)
 intro op t nl l q H1 he hm
 have hb0:H1[H.length]? =some B0:=hm.old _ _ (by omega) z0K
 refine z0H rfl rfl hb0 z1C ?_
 refine z0B ?_
 exact z1G (z1E rfl (z0C hb0)) (z4J (z0X _ _ _ _).symm he ((m0.trans hm).own (Nat.le_refl _) (by omega)))
theorem c293 (n:Nat) (hgb:hasBody PP 294=true) (hk:∀ m,m+2≤n→WOk m 294 .chain):WOk n 293 .ignore:=by
 intro rid s p H hg hp hs hne
 cases n with
 | zero=>exact absurd rfl hne
 | succ n =>
 simp only [pe] at hne ⊢
 cases n with
 | zero=>exact absurd rfl hne
 | succ n =>
 have hrl:=(List.getElem?_eq_some_iff.1 hg).1
 refine ACall.sealed (n:=H.length) ?_
 refine is293.c1 z0V mixed rfl ?_
 rw [List.append_nil]
 have m0:Mod H rid (RB s p) (H++[B0]):=(Mod.refl hg).app _
 refine z0B ?_
 refine z4T (args:=[.ptr rid 0,.int .i64 13,.str [47],.clo (.func 294) [.ptr rid 0] []]) (by rfl) (c276 n hgb (fun m hm=>hk m (by omega)) rfl rfl rfl m0.get hp hs hne) ?_ ?_
 rotate_left
 ·intro q H' he hm
  exact z1Q he (m0.trans hm)
 intro op t nl l q H1 he hm
 have hb0:H1[H.length]? =some B0:=hm.old _ _ (by omega) z0K
 refine z0H rfl rfl hb0 z1C ?_
 refine z0B ?_
 exact z1G (z1E rfl (z0C hb0)) (z4J (z0X _ _ _ _).symm he ((m0.trans hm).own (Nat.le_refl _) (by omega)))
theorem enc_lf (op:Int) (t:Bt):enc (.mk op t true [])=.agg [.int .i64 op,.str t,.nilslice]:=by rw [z0X];rfl
section steps
variable {P:Program} {H G:Heap} {al:AL} {K:KL} {Qp:AL→AV→Heap→Prop} {os:List IOper} {d:Nat} {x y z:Arg}
theorem z3D {a:Nat} (hx:evL al x=.int .i64 a) (h1:1≤a) (h2:a≤9223372036854775807) (h:VV P os ((d,.int .i64 (a-1:Nat))::al) H K Qp):VV P (⟨some d,.i (.d (.bin .sub)),[x,.const (.int .i64 1)],none,none⟩::os) al H K Qp :=
 z3H (a:=a) (b:=1) hx rfl (by omega) (by omega) (by rw [show (a:Int)-1=((a-1:Nat):Int) by omega];exact h)
end steps
theorem c297 (n:Nat) (hk:WOk n 238 .only):WOk (n+1) 297 .atom:=by
 intro rid s p H hg hp hs hne
 have hrl:=(List.getElem?_eq_some_iff.1 hg).1
 simp only [pe] at hne ⊢
 generalize hx:(tkn s p).bind _=xx at hne ⊢
 refine ACall.sealed (n:=H.length) ?_
 refine is297.c1 z0V mixed rfl ?_
 rw [List.append_nil]
 have m0:Mod H rid (RB s p) (H++[B0]):=(Mod.refl hg).app _
 have hb0:(H++[B0])[H.length]? =some B0:=z0K
 refine z0B ?_
 refine st_tk (by rfl) m0.get hp hs ?_ ?_
 rotate_left
 ·intro H' ht hm2
  exact z1Q (by rw [←hx,ht];rfl) (m0.trans hm2)
 intro t H2 ht htl hg2 hm2
 have hb2:=hm2.old _ _ (by omega) hb0
 have m2:=m0.trans hm2
 rw [ht,z0R] at hx
 simp only at hx
 generalize skp s p=q at *
 clear hb0 m0 hm2 ht
 refine z0B ?_
 refine z0G rfl (c296 (by omega) _) ?_
 refine z0B ?_
 cases hbg:bgn t
 ·rw [hbg] at hx
  simp only [Bool.not_false,if_true] at hx
  refine z0B ?_
  refine z0L rfl rfl ?_
  refine z0B ?_
  refine z4D rfl ?_
  exact z1Q hx.symm m2
 rw [hbg] at hx
 simp only [Bool.not_true,Bool.false_eq_true,if_false] at hx
 have h1:=tok_pos hbg
 obtain ⟨c,hc0⟩:=z1D (l:=t) (i:=0) (by omega)
 have hcd:t.headD 0=c:=by
  cases t with
  | nil=>simp at h1
  | cons x t=>simp at hc0;simp [hc0]
 rw [hcd] at hx
 refine z0B ?_
 refine z4L (a:=q) (b:=t.length) rfl rfl (by omega) ?_
 refine z0B ?_
 refine z1J (.int .i64 (q+t.length:Nat)) rfl rfl hg2 rfl rfl rfl ?_
 have m3:Mod H rid (RB s (q+t.length)) (H2.set rid (.cells (setAt [.str s,.int .i64 q] (0+1) (AV.int .i64 (q+t.length:Nat)).cells))):=m2.put
 have hb3:(H2.set rid (.cells (setAt [.str s,.int .i64 q] (0+1) (AV.int .i64 (q+t.length:Nat)).cells)))[H.length]? =some B0:=z0A hb2 (by omega)
 generalize H2.set rid (.cells (setAt [.str s,.int .i64 q] (0+1) (AV.int .i64 (q+t.length:Nat)).cells))=H3 at *
 clear m2 hb2 hg2
 have fin:∀ {op:Int} {u:Bt} {q':Nat},q'=q+t.length→PR.ok (Ex.mk op u true [],q')=xx→∀ al,look al 2=.ptr H.length 0→fpostL ic297.rs (PePostX H rid s xx) .ret al (H3.set H.length (.cells [.int .i64 op,.str u,.nilslice])):=by
  intro op u q' hq' hxx al hal
  subst hq'
  exact z1G (z1E hal (z0C hb3)) (z4J (enc_lf op u).symm hxx.symm (m3.own (Nat.le_refl _) (by omega)))
 refine z0B ?_
 cases b1:(t==[46])
 rotate_left
 ·rw [b1] at hx
  simp only [if_true] at hx
  have:=z1X b1
  refine z0B ?_
  refine z0L rfl rfl ?_
  refine z0H rfl rfl hb3 rfl ?_
  refine z0B ?_
  exact fin (by simp only [List.length_cons,List.length_nil] at this;omega) hx _ rfl
 rw [b1] at hx
 simp only [Bool.false_eq_true,if_false] at hx
 refine z0B ?_
 cases b2:(t==[91,93])
 rotate_left
 ·rw [b2] at hx
  simp only [if_true] at hx
  have:=z1X b2
  refine z0B ?_
  refine z0L rfl rfl ?_
  refine z0H rfl rfl hb3 rfl ?_
  refine z0B ?_
  exact fin (by simp only [List.length_cons,List.length_nil] at this;omega) hx _ rfl
 rw [b2] at hx
 simp only [Bool.false_eq_true,if_false] at hx
 refine z0B ?_
 cases b3:(t==[33])
 rotate_left
 ·rw [b3] at hx
  simp only [if_true] at hx
  have:=z1X b3
  refine z0B ?_
  refine z0L rfl rfl ?_
  refine z0H rfl rfl hb3 rfl ?_
  refine z0B ?_
  exact fin (by simp only [List.length_cons,List.length_nil] at this;omega) hx _ rfl
 rw [b3] at hx
 simp only [Bool.false_eq_true,if_false] at hx
 refine z0B ?_
 cases b4:(t==[91])
 rotate_left
 ·rw [b4] at hx
  simp only [if_true] at hx
  have hl1:=z1X b4
  simp only [List.length_cons,List.length_nil] at hl1
  rw [hl1] at m3 htl
  simp only [Nat.zero_add] at m3 htl
  have hne3:pe n .only s (q+1)≠.oof:=fun e=>hne (by rw [←hx,e];rfl)
  refine z0B ?_
  refine z4T (args:=[.ptr rid 0]) (by rfl) (hk m3.get htl hs hne3) ?_ ?_
  rotate_left
  ·intro q' H' he hm4
   exact z1Q (by rw [←hx,he];rfl) (m3.trans hm4)
  intro op u nl l q4 H4 he hm4
  rw [he,z0R] at hx
  obtain ⟨a1,a2,_,a4⟩:=pe_ok _ _ _ _ _ rfl he htl
  simp only at a1 a2 hx
  have hb4:=hm4.old _ _ (by omega) hb3
  have m4:=m3.trans hm4
  refine z1M ?_
  refine z0T rfl rfl rfl rfl rfl z1C ?_
  have m5:=m4.app [Blk.cells [.int .i64 op,.str u,lst nl l]]
  have hb5:=z0F (G:=[Blk.cells [.int .i64 op,.str u,lst nl l]]) hb4
  have hla:(H4++[Blk.cells [.int .i64 op,.str u,lst nl l]])[H4.length]? =some (.cells [.int .i64 op,.str u,lst nl l]):=z0K
  have hb4l:=(List.getElem?_eq_some_iff.1 hb4).1
  generalize (H4++[Blk.cells [.int .i64 op,.str u,lst nl l]]:Heap)=H5 at *
  generalize H4.length=b4' at *
  refine z0B ?_
  refine st_tak (by rfl) m5.get a2 hs ?_ ?_
  rotate_left
  ·intro q' H' ht hm2
   exact z1Q (by rw [←hx,ht];rfl) (m5.trans hm2)
  intro b q6 H6 ht hq6 hg6 hm6
  rw [ht,z0R] at hx
  simp only at hx
  have m6:=m5.trans hm6
  have hb6:=hm6.old _ _ (by omega) hb5
  have hla6:=hm6.old _ _ (by omega) hla
  refine z0B ?_
  cases b
  ·simp only [Bool.false_eq_true,if_false] at hx
   refine z0B ?_
   refine z0L rfl rfl ?_
   refine z0B ?_
   refine z4D rfl ?_
   exact z1Q hx.symm m6
  ·simp only [if_true] at hx
   refine z0B ?_
   refine z0H rfl rfl hb6 z1C ?_
   refine z0B ?_
   exact z1G (z1E rfl (z0C hb6)) (z4J (z0X _ _ _ _).symm hx.symm (m6.own (Nat.le_refl _) (by omega)))
 rw [b4] at hx
 simp only [Bool.false_eq_true,if_false] at hx
 have e92:((c.toNat:Int)==92)=(c==92):=z1T c 92
 have e60:((c.toNat:Int)==60)=(c==60):=z1T c 60
 refine z0B ?_
 rw [e92]
 cases b5:(c==92)
 rotate_left
 ·rw [b5] at hx
  simp only [if_true] at hx
  refine z0B ?_
  refine z0L rfl rfl ?_
  refine z0H rfl rfl hb3 rfl ?_
  refine z0B ?_
  exact fin rfl hx _ rfl
 rw [b5] at hx
 simp only [Bool.false_eq_true,if_false] at hx
 refine z0B ?_
 rw [e60]
 cases b6:(c==60)
 rotate_left
 ·rw [b6] at hx
  simp only [if_true] at hx
  have hl2:2≤t.length:=by
   have hc:c=60:=by simpa using b6
   rw [hc] at hcd
   unfold bgn at hbg
   rw [hcd] at hbg
   have e1:isAl 60=false:=by decide
   rw [e1] at hbg
   simp only [Bool.and_eq_true,Bool.or_false,Bool.or_eq_true,decide_eq_true_eq] at hbg
   rcases hbg.2 with h | h
   ·omega
   ·simp at h
  refine z0B ?_
  refine z3D rfl (by omega) (by omega) ?_
  refine z3E (i:=1) (j:=t.length-1) (by rfl) (by rfl) (by rfl) (by omega) (by omega) ?_
  refine z0L rfl rfl ?_
  refine z0H rfl rfl hb3 rfl ?_
  refine z0B ?_
  exact fin rfl hx _ rfl
 rw [b6] at hx
 simp only [Bool.false_eq_true,if_false] at hx
 refine z0B ?_
 refine z0L rfl rfl ?_
 refine z0H rfl rfl hb3 rfl ?_
 refine z0B ?_
 exact fin rfl hx _ rfl
end Go.Ab
