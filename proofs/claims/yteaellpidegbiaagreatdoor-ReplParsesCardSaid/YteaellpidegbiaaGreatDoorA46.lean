/- Part 46 of the proof. -/
import Derived.Test.YteaellpidegbiaaGreatDoorA43
import Derived.Test.YteaellpidegbiaaGreatDoorA45
set_option linter.unusedVariables false
set_option linter.unusedSimpArgs false
namespace Go.Ab
open Go
set_option maxRecDepth 100000
set_option maxHeartbeats 8000000
theorem pe_but_low:∀ {n:Nat} {s:Bt} {p:Nat},n<12→pe n .but s p=.oof:=by
 intro n s p h
 have:n=0∨n=1∨n=2∨n=3∨n=4∨n=5∨n=6∨n=7∨n=8∨n=9∨n=10∨n=11:=by omega
 rcases this with rfl | rfl | rfl | rfl | rfl | rfl | rfl | rfl | rfl | rfl | rfl | rfl<;>simp only [pe,PR.bind]
theorem pe_but_bad {n:Nat} {s:Bt} {p:Nat} (hn:12≤n) (h:tkn s p=.bad):pe n .but s p=.bad:=by
 obtain ⟨m,rfl⟩:∃ m,n=m+12:=⟨n-12,by omega⟩
 simp only [pe,PR.bind,h]
theorem pe_but_n {n:Nat} {s:Bt} {p:Nat} {x:Ex × Nat} (h:pe n .but s p=.ok x):12≤n:=by
 refine Classical.byContradiction fun hn=>?_
 rw [pe_but_low (by omega)] at h;cases h
theorem c216 (n:Nat) (hk:WR n 249 [.int .i64 45] .but):WR (n+1) 216 [] .only:=by
 intro rid s p sym H hg hp hs hne
 have hrl:=(List.getElem?_eq_some_iff.1 hg).1
 simp only [pe] at hne ⊢
 generalize hx:(pe n .but s p).bind _=xx at hne ⊢
 refine ACall.sealed (n:=H.length) ?_
 refine is216.c1 z0V mixed rfl ?_
 rw [List.append_nil]
 have m0:Mod H rid (advB s p sym false) (H++[B0]):=(Mod.refl hg).app _
 have hb0:(H++[B0])[H.length]? =some B0:=z0K
 have hne1:pe n .but s p≠.oof:=fun e=>hne (by rw [←hx,e];rfl)
 refine z0B ?_
 refine z5F (args:=[.ptr rid 0,.int .i64 45]) (by rfl) (hk m0.get hp hs hne1) ?_
 intro op t nl l b H1 hst hm
 have h1:∃ a0 nx k sy bad,b=RE s a0 nx k sy bad∧(((bad||(k != 2))=true∧StP s xx (.mk op t nl l) b)∨(bad=false∧(bad||(k != 2))=false∧12≤n∧nx≤s.length ∧
   ((tkn s nx).bind fun t'=>(if t'.1==[95] then .ok (lf 2,t'.2) else pe n .but s t'.2).bind fun l'=>(tak [95] s l'.2).bind fun z=>if z.1 then
    (tkn s z.2).bind fun u=>(if u.1==[]||u.1==[93] then .ok (lf 2,u.2) else pe n .but s u.2).bind fun r=>.ok (nd 14 [.mk op t nl l,l'.1,r.1],r.2) else .bad)=xx)):=by
  rcases hst with ⟨q,sym',he,rfl⟩ | ⟨he,a0,nx,k,sy,bad,rfl,hf⟩
  ·obtain ⟨a1,a2,a3,a4⟩:=pe_ok _ _ _ _ _ rfl he hp
   have hn12:=pe_but_n he
   simp only at a2
   rw [he,z0R] at hx
   simp only at hx
   obtain ⟨nx,k,sy,hopen,hO⟩:=adv_open sym' false a2
   refine ⟨_,_,_,_,_,hopen,?_⟩
   rcases hO.arrow with ⟨h1,h2,h3⟩ | ⟨h1,⟨h2,h3⟩ | h2⟩
   ·rw [h2,z0R] at hx
    simp only [if_true] at hx
    exact .inr ⟨rfl,by rw [bne,h1];rfl,hn12,h3,hx⟩
   ·rw [h2,z2M] at hx
    refine .inl ⟨by rw [bne,h1];rfl,.inr ⟨hx.symm,_,_,_,_,_,hopen,.inr h3⟩⟩
   ·rw [h2,z0R] at hx
    simp only [Bool.false_eq_true,if_false] at hx
    exact .inl ⟨by rw [bne,h1];rfl,StP.ok hx.symm (advB_skp _ _ _ _).symm⟩
  ·rw [he,z2M] at hx
   refine ⟨_,_,_,_,_,rfl,.inl ⟨?_,.inr ⟨hx.symm,_,_,_,_,_,rfl,hf⟩⟩⟩
   rcases hf with rfl | rfl
   ·rfl
   ·cases bad<;>rfl
 clear hst hx
 obtain ⟨a0,nx,k,sy,bad,rfl,h1⟩:=h1
 have hb1:=hm.old _ _ (by omega) hb0
 have m1:=m0.trans hm
 refine z1M ?_
 refine z0T rfl rfl rfl rfl rfl z1C ?_
 have m2:=m1.app [Blk.cells [.int .i64 op,.str t,lst nl l]]
 have hb2:=z0F (G:=[Blk.cells [.int .i64 op,.str t,lst nl l]]) hb1
 have h3:(H1++[Blk.cells [.int .i64 op,.str t,lst nl l]])[H1.length]? =some (.cells [.int .i64 op,.str t,lst nl l]):=z0K
 have hl1:=(List.getElem?_eq_some_iff.1 hb1).1
 generalize (H1++[Blk.cells [.int .i64 op,.str t,lst nl l]]:Heap)=H2 at *
 generalize H1.length=i3 at *
 clear hm m1 hb1 hb0 m0 hne1
 clear hg H1
 have hg2:=m2.get
 refine z0B ?_
 refine z1Y [(0,.ptr rid 0),(2,.ptr H.length 0),(3,.ptr i3 0),(18,.bool (bad||(k != 2)))] H2 ?_ ?_
 ·cases bad
  ·refine z0B ?_
   exact z0S rfl rfl
  ·refine z0B ?_
   exact z0S rfl rfl
 rcases h1 with ⟨h1,hst⟩ | ⟨rfl,h1,hn12,hn1,hx⟩
 ·rw [h1]
  refine z0B ?_
  refine z0H rfl rfl hb2 z1C ?_
  refine z0B ?_
  exact z1G (z1E rfl (z0C hb2)) (z4C (z0X _ _ _ _).symm hst (m2.own (Nat.le_refl _) (by omega)))
 rw [h1]
 refine z0B ?_
 refine z4Y rfl hg2 hn1 (by omega) fun v=>?_
 have m3:Mod H rid (advB s nx sy false) (H2.set rid (advB s nx sy false)):=m2.put
 have hb3:=z0A (y:=advB s nx sy false) hb2 (show H.length≠rid by omega)
 have h33:=z0A (y:=advB s nx sy false) h3 (show i3≠rid by omega)
 generalize H2.set rid (advB s nx sy false)=H3 at *
 clear hg2 m2 hb2 h3 h1
 clear H2
 refine z0B ?_
 refine z0L (out:=[.int .i64 2,.str [],.nilslice]) rfl rfl ?_
 refine z0L (out:=[.int .i64 2,.str [],.nilslice]) rfl rfl ?_
 refine z1M ?_
 refine z1M ?_
 have hl3:=(List.getElem?_eq_some_iff.1 h33).1
 have h40:(H3++[B0])[H3.length]? =some B0:=z0K
 have h50:(H3++[B0]++[B0])[(H3++[B0]:Heap).length]? =some B0:=z0K
 have h5n:(H3++[B0]:Heap).length=H3.length+1:=by simp
 rw [h5n] at h50 ⊢
 have h40':=z0F (G:=[B0]) h40
 have m4:=(m3.app [B0]).app [B0]
 have hb4:=z0F (G:=[B0]) (z0F (G:=[B0]) hb3)
 have h34:=z0F (G:=[B0]) (z0F (G:=[B0]) h33)
 refine z0H rfl rfl h40' rfl ?_
 have h41:=z0C (y:=.cells [.int .i64 2,.str [],.nilslice]) h40'
 have h51:=z0A (y:=.cells [.int .i64 2,.str [],.nilslice]) (b:=H3.length) h50 (by omega)
 have m5:Mod H rid (advB s nx sy false) ((H3++[B0]++[B0]).set H3.length (.cells [.int .i64 2,.str [],.nilslice])):=m4.own (by omega) (by omega)
 have hb5:=z0A (y:=.cells [.int .i64 2,.str [],.nilslice]) (b:=H3.length) hb4 (by omega)
 have h35:=z0A (y:=.cells [.int .i64 2,.str [],.nilslice]) (b:=H3.length) h34 (by omega)
 refine z0H rfl rfl h51 rfl ?_
 have h42:=z0A (y:=.cells [.int .i64 2,.str [],.nilslice]) (b:=H3.length+1) h41 (by omega)
 have h52:=z0C (y:=.cells [.int .i64 2,.str [],.nilslice]) h51
 have m6:=m5.own (x:=.cells [.int .i64 2,.str [],.nilslice]) (id:=H3.length+1) (by omega) (by omega)
 have hb6:=z0A (y:=.cells [.int .i64 2,.str [],.nilslice]) (b:=H3.length+1) hb5 (by omega)
 have h36:=z0A (y:=.cells [.int .i64 2,.str [],.nilslice]) (b:=H3.length+1) h35 (by omega)
 generalize ((H3++[B0]++[B0]).set H3.length (.cells [.int .i64 2,.str [],.nilslice])).set (H3.length+1) (.cells [.int .i64 2,.str [],.nilslice])=H4 at *
 generalize H3.length=i4 at *
 clear h40 h50 h5n h40' m4 hb4 h34 h41 h51 m5 hb5 h35 hb3 h33 m3
 clear H3
 obtain ⟨nx2,k2,sy2,hopen,hO⟩:=adv_open sy false hn1
 have m6':=m6
 rw [hopen] at m6'
 have hg6:=m6'.get
 refine z0B ?_
 refine wi_cut (fun al' H'=>∃ op2 t2 nl2 l2 b2 tl,al'=(0,.ptr rid 0)::(2,.ptr H.length 0)::(3,.ptr i3 0)::(4,.ptr i4 0)::(5,.ptr (i4+1) 0)::tl∧Mod H rid b2 H'∧H'[H.length]? =some B0 ∧
  H'[i3]? =some (.cells [.int .i64 op,.str t,lst nl l])∧H'[i4]? =some (.cells [.int .i64 op2,.str t2,lst nl2 l2])∧H'[i4+1]? =some (.cells [.int .i64 2,.str [],.nilslice]) ∧
  ((∃ q sym,b2=advB s q sym false∧q≤s.length∧((tak [95] s q).bind fun z=>if z.1 then (tkn s z.2).bind fun u=>(if u.1==[]||u.1==[93] then .ok (lf 2,u.2) else pe n .but s u.2).bind fun r=>.ok (nd 14 [.mk op t nl l,.mk op2 t2 nl2 l2,r.1],r.2) else .bad)=xx)∨(FlB s b2∧xx=.bad))) ?_ ?_
 ·have h95:((k2 != 95)=true∧∃ pos,advB s pos sy false=advB s nx sy false∧pos≤s.length∧pe n .but s pos≠.oof∧((pe n .but s pos).bind fun l'=>(tak [95] s l'.2).bind fun z=>if z.1 then (tkn s z.2).bind fun u=>(if u.1==[]||u.1==[93] then .ok (lf 2,u.2) else pe n .but s u.2).bind fun r=>.ok (nd 14 [.mk op t nl l,l'.1,r.1],r.2) else .bad)=xx) ∨
    ((k2 != 95)=false∧((tak [95] s nx).bind fun z=>if z.1 then (tkn s z.2).bind fun u=>(if u.1==[]||u.1==[93] then .ok (lf 2,u.2) else pe n .but s u.2).bind fun r=>.ok (nd 14 [.mk op t nl l,lf 2,r.1],r.2) else .bad)=xx):=by
   rcases hO.h with ⟨h1,rfl⟩ | ⟨t',h1,h2,h3,h4,h5,_⟩
   ·rw [h1,z2M] at hx
    have hb:=pe_but_bad hn12 h1
    exact .inl ⟨rfl,nx,rfl,hn1,(by rw [hb];intro e;cases e),(by rw [hb];exact hx)⟩
   ·rw [h1,z0R] at hx
    simp only at hx
    have j1:(k2==95)=(t'==[95]):=by rw [h5];exact z4M (c:=95) h2 rfl
    cases d1:(t'==[95])
    ·rw [d1] at hx j1
     simp only [Bool.false_eq_true,if_false] at hx
     exact .inl ⟨by rw [bne,j1];rfl,skp s nx,advB_skp _ _ _ _,z5A hn1,(fun e=>hne (by rw [←hx,e];rfl)),hx⟩
    ·rw [d1] at hx j1
     simp only [if_true,z0R] at hx
     have e3:tak [95] s (skp s nx)=tak [95] s nx:=by unfold tak;rw [tkn_skp]
     rw [e3] at hx
     exact .inr ⟨by rw [bne,j1];rfl,hx⟩
  rcases h95 with ⟨h95,pos,hpe,hpl,hpo,hx⟩ | ⟨h95,hx⟩
  ·have hgp:H4[rid]? =some (advB s pos sy false):=by rw [hpe];exact m6.get
   refine z0B ?_
   refine z5F (args:=[.ptr rid 0,.int .i64 45]) (by rfl) (hk hgp hpl hs hpo) ?_
   intro op2 t2 nl2 l2 b2 H6 hst hm
   have h48:=hm.old _ _ (by omega) h42
   refine z0H rfl rfl h48 z1C ?_
   refine z0B ?_
   refine ⟨op2,t2,nl2,l2,b2,_,rfl,(m6.trans hm).own (by omega) (by omega),z0A (hm.old _ _ (by omega) hb6) (by omega),z0A (hm.old _ _ (by omega) h36) (by omega),z0C h48,z0A (hm.old _ _ (by omega) h52) (by omega),?_⟩
   rcases hst with ⟨q,sym',he,hb⟩ | ⟨he,hb⟩
   ·obtain ⟨a1,a2,a3,a4⟩:=pe_ok _ _ _ _ _ rfl he hpl
    rw [he,z0R] at hx
    exact .inl ⟨q,sym',hb,a2,hx⟩
   ·rw [he,z2M] at hx
    exact .inr ⟨hb,hx.symm⟩
  ·refine z0B ?_
   exact ⟨2,[],true,[],_,_,rfl,m6,hb6,h36,h42,h52,.inl ⟨nx,sy,rfl,hn1,hx⟩⟩
 clear hx m6 hb6 h36 h42 h52 hg6 m6' hO hopen H4
 rintro _ H5 ⟨op2,t2,nl2,l2,b2,tl,rfl,m7,hb7,h37,h47,h57,hJ⟩
 have h1:∃ a0 nx k sy bad,b2=RE s a0 nx k sy bad∧(((bad||(k != 95))=true∧xx=.bad)∨(bad=false∧(bad||(k != 95))=false∧nx≤s.length ∧
   ((tkn s nx).bind fun u=>(if u.1==[]||u.1==[93] then .ok (lf 2,u.2) else pe n .but s u.2).bind fun r=>.ok (nd 14 [.mk op t nl l,.mk op2 t2 nl2 l2,r.1],r.2))=xx)):=by
  rcases hJ with ⟨q,sym',rfl,hq,hx⟩ | ⟨⟨a0,nx,k,sy,bad,rfl,hf⟩,hxb⟩
  ·obtain ⟨nx,k,sy,hopen,hO⟩:=adv_open sym' false hq
   refine ⟨_,_,_,_,_,hopen,?_⟩
   rcases hO.sg (c:=95) rfl with ⟨h1,h2,h3⟩ | ⟨h1,⟨h2,h3⟩ | h2⟩
   ·rw [h2,z0R] at hx
    simp only [if_true] at hx
    exact .inr ⟨rfl,by rw [bne];show (false || !(k==95))=false;rw [show (k==95)=true from h1];rfl,h3,hx⟩
   ·rw [h2,z2M] at hx
    exact .inl ⟨by rw [bne];show (false || !(k==95))=true;rw [show (k==95)=false from h1];rfl,hx.symm⟩
   ·rw [h2,z0R] at hx
    simp only [Bool.false_eq_true,if_false] at hx
    exact .inl ⟨by rw [bne];show (false || !(k==95))=true;rw [show (k==95)=false from h1];rfl,hx.symm⟩
  ·refine ⟨_,_,_,_,_,rfl,.inl ⟨?_,hxb⟩⟩
   rcases hf with rfl | rfl
   ·rfl
   ·cases bad<;>rfl
 clear hJ
 obtain ⟨a2,nx3,k3,sy3,bad3,rfl,h1⟩:=h1
 have hg7:=m7.get
 refine z0B ?_
 refine z1Y [(0,.ptr rid 0),(2,.ptr H.length 0),(3,.ptr i3 0),(4,.ptr i4 0),(5,.ptr (i4+1) 0),(41,.bool (bad3||(k3 != 95)))] H5 ?_ ?_
 ·cases bad3
  ·refine z0B ?_
   exact z0S rfl rfl
  ·refine z0B ?_
   exact z0S rfl rfl
 rcases h1 with ⟨h1,hxb⟩ | ⟨rfl,h1,hn3,hx⟩
 ·rw [h1]
  refine z0B ?_
  refine z0P (v:=.bool true) rfl rfl hg7 rfl (by simp) ?_
  show VV _ _ _ (H5.set rid (RE s a2 nx3 k3 sy3 true)) _ _
  have m8:Mod H rid (RE s a2 nx3 k3 sy3 true) (H5.set rid (RE s a2 nx3 k3 sy3 true)):=m7.put
  have hb8:=z0A (y:=RE s a2 nx3 k3 sy3 true) hb7 (show H.length≠rid by omega)
  have h38:=z0A (y:=RE s a2 nx3 k3 sy3 true) h37 (show i3≠rid by omega)
  generalize H5.set rid (RE s a2 nx3 k3 sy3 true)=H6 at *
  refine z0B ?_
  refine z0H rfl rfl hb8 z1C ?_
  refine z0B ?_
  exact z1G (z1E rfl (z0C hb8)) (z4C (z0X _ _ _ _).symm (.inr ⟨hxb,_,_,_,_,_,rfl,.inl rfl⟩) (m8.own (Nat.le_refl _) (by omega)))
 rw [h1]
 refine z0B ?_
 refine z4Y rfl hg7 hn3 (by omega) fun v=>?_
 have m8:Mod H rid (advB s nx3 sy3 false) (H5.set rid (advB s nx3 sy3 false)):=m7.put
 have hb8:=z0A (y:=advB s nx3 sy3 false) hb7 (show H.length≠rid by omega)
 have h38:=z0A (y:=advB s nx3 sy3 false) h37 (show i3≠rid by omega)
 have h48:=z0A (y:=advB s nx3 sy3 false) h47 (show i4≠rid by omega)
 have h58:=z0A (y:=advB s nx3 sy3 false) h57 (show i4+1≠rid by omega)
 generalize H5.set rid (advB s nx3 sy3 false)=H6 at *
 clear hg7 m7 hb7 h37 h47 h57 h1
 clear H5
 obtain ⟨nx4,k4,sy4,hopen,hO⟩:=adv_open sy3 false hn3
 have m8':=m8
 rw [hopen] at m8'
 have hg8:=m8'.get
 have h95:(((k4 != 0)&&(k4 != 93))=true∧∃ pos,advB s pos sy3 false=advB s nx3 sy3 false∧pos≤s.length∧pe n .but s pos≠.oof∧((pe n .but s pos).bind fun r=>.ok (nd 14 [.mk op t nl l,.mk op2 t2 nl2 l2,r.1],r.2))=xx) ∨
   (((k4 != 0)&&(k4 != 93))=false∧PR.ok (nd 14 [.mk op t nl l,.mk op2 t2 nl2 l2,lf 2],skp s nx3)=xx):=by
  rcases hO.h with ⟨h1,rfl⟩ | ⟨t',h1,h2,h3,h4,h5,_⟩
  ·rw [h1,z2M] at hx
   have hb:=pe_but_bad hn12 h1
   exact .inl ⟨rfl,nx3,rfl,hn3,(by rw [hb];intro e;cases e),(by rw [hb];exact hx)⟩
  ·rw [h1,z0R] at hx
   simp only at hx
   have j1:(k4==93)=(t'==[93]):=by rw [h5];exact z4M (c:=93) h2 rfl
   have j0:(k4==0)=(t'==[]):=by rw [h5];exact tkK_zero h2
   have j2:((k4 != 0)&&(k4 != 93)) = !(t'==[]||t'==[93]):=by rw [bne,bne,j0,j1,Bool.not_or]
   cases d1:(t'==[]||t'==[93])
   ·rw [d1] at hx j2
    simp only [Bool.false_eq_true,if_false] at hx
    exact .inl ⟨j2,skp s nx3,advB_skp _ _ _ _,z5A hn3,(fun e=>hne (by rw [←hx,e];rfl)),hx⟩
   ·rw [d1] at hx j2
    simp only [if_true,z0R] at hx
    exact .inr ⟨j2,hx⟩
 clear hx
 refine z0B ?_
 refine z1Y [(0,.ptr rid 0),(2,.ptr H.length 0),(3,.ptr i3 0),(4,.ptr i4 0),(5,.ptr (i4+1) 0),(59,.bool ((k4 != 0)&&(k4 != 93)))] H6 ?_ ?_
 ·cases b1:(k4 != 0)
  ·refine z0B ?_
   exact z0S rfl rfl
  ·refine z0B ?_
   exact z0S rfl rfl
 refine wi_cut (fun al' H'=>∃ op3 t3 nl3 l3 b3,(al'=[(2,.ptr H.length 0),(3,.ptr i3 0),(4,.ptr i4 0),(5,.ptr (i4+1) 0)]∨al'=[(0,.ptr rid 0),(2,.ptr H.length 0),(3,.ptr i3 0),(4,.ptr i4 0),(5,.ptr (i4+1) 0),(59,.bool false)])∧Mod H rid b3 H'∧H'[H.length]? =some B0 ∧
  H'[i3]? =some (.cells [.int .i64 op,.str t,lst nl l])∧H'[i4]? =some (.cells [.int .i64 op2,.str t2,lst nl2 l2])∧H'[i4+1]? =some (.cells [.int .i64 op3,.str t3,lst nl3 l3]) ∧
  StP s xx (nd 14 [.mk op t nl l,.mk op2 t2 nl2 l2,.mk op3 t3 nl3 l3]) b3) ?_ ?_
 ·rcases h95 with ⟨h95,pos,hpe,hpl,hpo,hx⟩ | ⟨h95,hx⟩
  ·rw [h95]
   have hgp:H6[rid]? =some (advB s pos sy3 false):=by rw [hpe];exact m8.get
   refine z0B ?_
   refine z5F (args:=[.ptr rid 0,.int .i64 45]) (by rfl) (hk hgp hpl hs hpo) ?_
   intro op3 t3 nl3 l3 b3 H9 hst hm
   have h510:=hm.old _ _ (by omega) h58
   refine z0H rfl rfl h510 z1C ?_
   refine z0B ?_
   refine ⟨op3,t3,nl3,l3,b3,.inl rfl,(m8.trans hm).own (by omega) (by omega),z0A (hm.old _ _ (by omega) hb8) (by omega),z0A (hm.old _ _ (by omega) h38) (by omega),z0A (hm.old _ _ (by omega) h48) (by omega),z0C h510,?_⟩
   rcases hst with ⟨q,sym',he,hb⟩ | ⟨he,hb⟩
   ·rw [he,z0R] at hx
    exact StP.ok hx.symm hb
   ·rw [he,z2M] at hx
    exact .inr ⟨hx.symm,hb⟩
  ·rw [h95]
   refine z0B ?_
   exact ⟨2,[],true,[],_,.inr rfl,m8,hb8,h38,h48,h58,StP.ok hx.symm (advB_skp _ _ _ _).symm⟩
 clear h95 m8 hb8 h38 h48 h58 m8' hg8 hO hopen H6
 rintro al9 H8 ⟨op3,t3,nl3,l3,b3,ha,m9,hb9,h39,h49,h59,hst⟩
 have hl9:=(List.getElem?_eq_some_iff.1 hb9).1
 have m10:=m9.app [.cells (flatE [.mk op t nl l,.mk op2 t2 nl2 l2,.mk op3 t3 nl3 l3])]
 have hb10:=z0F (G:=[.cells (flatE [.mk op t nl l,.mk op2 t2 nl2 l2,.mk op3 t3 nl3 l3])]) hb9
 have e1:flatE [.mk op t nl l,.mk op2 t2 nl2 l2,.mk op3 t3 nl3 l3]=[.int .i64 op,.str t,lst nl l,.int .i64 op2,.str t2,lst nl2 l2,.int .i64 op3,.str t3,lst nl3 l3]:=by
  rw [show ([Ex.mk op t nl l,.mk op2 t2 nl2 l2,.mk op3 t3 nl3 l3]:List Ex)=[Ex.mk op t nl l]++[Ex.mk op2 t2 nl2 l2]++[Ex.mk op3 t3 nl3 l3] from rfl,z2L,z2L,z0U,z0U,z0U];rfl
 rcases ha with rfl | rfl
 all_goals
  refine z0B ?_
  refine z1A (out:=flatE [.mk op t nl l,.mk op2 t2 nl2 l2,.mk op3 t3 nl3 l3]) (by rw [e1];rfl) ?_
  refine z0B ?_
  refine z0L (out:=[.int .i64 14,.str [],.sl H8.length 0 3 3]) rfl rfl ?_
  refine z0H rfl rfl hb10 rfl ?_
  refine z0B ?_
  exact z1G (z1E rfl (z0C hb10)) (z5E (l:=[.mk op t nl l,.mk op2 t2 nl2 l2,.mk op3 t3 nl3 l3]) hst (z0A z0K (by omega)) (by omega) (m10.own (Nat.le_refl _) (by omega)) hrl)
structure RAll (n:Nat):Prop where
 only:WR n 216 [] .only
 but:WR n 249 [.int .i64 45] .but
 or:WR n 249 [.int .i64 124] .or
 and:WR n 249 [.int .i64 38] .and
 shuffle:WR n 249 [.int .i64 37] .shuffle
 ignore:WR n 249 [.int .i64 47] .ignore
 chain:WR n 249 [.int .i64 0] .chain
 chn:WR n 264 [] .chain
 ahead:WR n 281 [] .ahead
 atom:WRA n
theorem rall:∀ N n,n≤N→RAll n
 | 0,n,hn=>by
  obtain rfl:n=0:=by omega
  exact ⟨WR.zero,WR.zero,WR.zero,WR.zero,WR.zero,WR.zero,WR.zero,WR.zero,WR.zero,fun _ _ _ h=>absurd rfl h⟩
 | N+1,n,hn=>by
  have ih:=rall N
  cases n with
  | zero=>exact ih 0 (by omega)
  | succ n =>
   have h1:=ih n (by omega)
   have hc:WR (n+1) 264 [] .chain:=c264 n fun m hm=>(ih m (by omega)).ahead
   exact ⟨c216 n h1.but,WR.but fun m hm=>(ih m (by omega)).or,WR.or fun m hm=>(ih m (by omega)).and,WR.and fun m hm=>(ih m (by omega)).shuffle,WR.shuffle fun m hm=>(ih m (by omega)).ignore,
    WR.ignore fun m hm=>(ih m (by omega)).chain,c249_0 hc,hc,c281 n h1.ahead h1.atom,c290 n h1.only⟩
theorem res177 {al:AL} {H':Heap} {n:Nat} {cs:List AV} {a b:AV} (h2:look al 2=.ptr n 0) (h3:look al 3=a) (h4:look al 4=b) (hg:H'[n]? =some (.cells cs)) (hl:cs.length=3) :
  resultL ic177.rs al H'=some (.tuple [.agg cs,a,b]):=by
 have hd:dpart (some 3) cs 0=some (.agg cs):=dpart_all hl
 have e:rload (some 3) (look al 2) H'=some (.agg cs):=by rw [h2];simp only [rload,hg,hd]
 show (match resVL [.cell 2 (some 3),.tmp 3,.tmp 4] al H' with | some [v]=>some v | some vs=>some (.tuple vs) | none=>none)=_
 simp only [resVL,e,h3,h4]
theorem c177 (s:Bt) (H:Heap):ACall PP 177 [.str s] H (fun r H'=>∃ v,r=.ret v∧ExP s v∧H'=H):=by
 refine ACall.forgetE (fun _ h=>h.plain) ?_
 refine is177.c1 z0V mixed rfl ?_
 rw [List.append_nil]
 have hlj:∀ (j:Nat) (b:Blk),H[j]? =some b→j<H.length:=fun j b h=>(List.getElem?_eq_some_iff.1 h).1
 have g0:(H++[B0])[H.length]? =some B0:=z0K
 have go:∀ (j:Nat) (b:Blk),H[j]? =some b→(H++[B0])[j]? =some b:=fun j b h=>z0F h
 have gl:(H++[B0]:Heap).length=H.length+1:=by simp
 have fin:∀ {K:Heap} {al:AL} {k pl:Int} {op:Int} {t:Bt} {nl:Bool} {l:List Ex},look al 2=.ptr H.length 0→look al 3=.int .i64 pl→look al 4=.int .i64 k→K[H.length]? =some (.cells [.int .i64 op,.str t,lst nl l])→(∀ (j:Nat) (b:Blk),H[j]? =some b→K[j]? =some b)→exP s=(.mk op t nl l,k) →
   fpostL ic177.rs (fun r H'=>∃ v,r=.ret v∧ExP s v∧∃ G,H'=H++G) .ret al K:=by
  intro K al k pl op t nl l h2 h3 h4 hg ho hr
  refine z1G (res177 h2 h3 h4 hg rfl) ⟨_,rfl,⟨pl,?_⟩,ext_old ho⟩
  rw [hr,z0X]
 refine z0B ?_
 cases hlen:decide ((s.length:Int)>6000)
 rotate_left
 ·have hr:exP s=(Z0,3):=by unfold exP;rw [hlen];rfl
  refine z0B ?_
  refine z0L rfl rfl ?_
  refine z0H rfl rfl g0 rfl ?_
  refine z0B ?_
  exact fin (nl:=true) (l:=[]) (pl:=0) rfl rfl rfl (z0C g0) (fun j b h=>z0A (go j b h) (by have:=hlj j b h;omega)) hr
 have hs:s.length≤6000:=by simp at hlen;omega
 have hX:exP s=match peA .only s 0 with
  | .ok (e,q)=>match tkn s q with
   | .ok (t,_)=>if t==[] then if vexpr e != 0 then (Z0,vexpr e) else (e,0) else (Z0,2)
   | _=>(Z0,2)
  | _=>(Z0,2):=by unfold exP;rw [hlen];rfl
 generalize (H++[B0]:Heap)=X at *
 refine z0B ?_
 refine z0L (out:=[.str s,.int .i64 (0:Nat),.int .i64 (0:Nat),.int .i64 0,.str [],.bool false]) rfl rfl ?_
 refine st_boxG (v:=.agg [.str s,.int .i64 (0:Nat),.int .i64 (0:Nat),.int .i64 0,.str [],.bool false]) rfl rfl ?_
 have k0:=z0F (G:=[RE s 0 0 0 [] false]) g0
 have ko:∀ (j:Nat) (b:Blk),H[j]? =some b→(X++[RE s 0 0 0 [] false])[j]? =some b:=fun j b h=>z0F (go j b h)
 have kr:(X++[RE s 0 0 0 [] false])[X.length]? =some (RE s 0 0 0 [] false):=z0K
 rw [gl] at kr ⊢
 show VV _ _ _ (X++[RE s 0 0 0 [] false]) _ _
 generalize (X++[RE s 0 0 0 [] false]:Heap)=Y at *
 clear g0 go gl X
 refine z0B ?_
 refine z4Y rfl kr (by omega) (by omega) fun v=>?_
 have m1:Mod Y (H.length+1) (advB s 0 [] false) (Y.set (H.length+1) (advB s 0 [] false)):=(Mod.refl kr).put
 have y0:=m1.old _ _ (by omega) k0
 have yo:∀ (j:Nat) (b:Blk),H[j]? =some b→(Y.set (H.length+1) (advB s 0 [] false))[j]? =some b:=fun j b h=>m1.old _ _ (by have:=hlj j b h;omega) (ko j b h)
 have yg:=m1.get
 generalize Y.set (H.length+1) (advB s 0 [] false)=U at *
 clear k0 ko kr m1 Y
 have hpo:peA .only s 0≠.oof:=pe_fuel _ _ _ _ (by decide) rfl (Nat.zero_le _) (by show 15*(s.length-0)+Md.rk .only≤15*(s.length+1);simp only [Md.rk];omega)
 refine z0B ?_
 refine z5F (args:=[.ptr (H.length+1) 0]) (by rfl) ((rall _ _ (Nat.le_refl _)).only (n:=15*(s.length+1)) yg (Nat.zero_le _) hs hpo) ?_
 intro op t nl l b V hst hm
 have hp0:pe (15*(s.length+1)) .only s 0=peA .only s 0:=rfl
 rw [hp0] at hst
 have h1:∃ a0 nx k sy bad,b=RE s a0 nx k sy bad∧(((bad||(k != 0))=true∧exP s=(Z0,2))∨((bad||(k != 0))=false∧okE (.mk op t nl l)∧exP s=if vexpr (.mk op t nl l) != 0 then (Z0,vexpr (.mk op t nl l)) else (.mk op t nl l,0))):=by
  rcases hst with ⟨q,sym',he,rfl⟩ | ⟨he,a0,nx,k,sy,bad,rfl,hf⟩
  ·obtain ⟨c1,c2,c3,c4⟩:=pe_ok _ _ _ _ _ rfl he (Nat.zero_le _)
   simp only [Md.wt] at c2 c3
   rw [he] at hX
   simp only at hX
   obtain ⟨nx,k,sy,hopen,hO⟩:=adv_open sym' false c2
   refine ⟨_,_,_,_,_,hopen,?_⟩
   rcases hO.h with ⟨j1,rfl⟩ | ⟨u,j1,j2,j3,j4,j5,_⟩
   ·rw [j1] at hX
    exact .inl ⟨rfl,hX⟩
   ·rw [j1] at hX
    simp only at hX
    have jz:(k==0)=(u==[]):=by rw [j5];exact tkK_zero j2
    cases d:(u==[])
    ·rw [d] at hX jz
     exact .inl ⟨by rw [bne,jz];rfl,hX⟩
    ·rw [d] at hX jz
     simp only [if_true] at hX
     exact .inr ⟨by rw [bne,jz];rfl,by unfold okE;omega,hX⟩
  ·rw [he] at hX
   refine ⟨_,_,_,_,_,rfl,.inl ⟨?_,hX⟩⟩
   rcases hf with rfl | rfl
   ·rfl
   ·cases bad<;>rfl
 clear hst hX
 obtain ⟨a0,nx,k,sy,bad,rfl,h1⟩:=h1
 have v0:=hm.old _ _ (by omega) y0
 have vo:∀ (j:Nat) (b:Blk),H[j]? =some b→V[j]? =some b:=fun j b h=>hm.old _ _ (by have:=hlj j b h;omega) (yo j b h)
 have vg:=hm.get
 clear hm y0 yo yg U
 refine z1M ?_
 refine z0T rfl rfl rfl rfl rfl z1C ?_
 have w0:=z0F (G:=[Blk.cells [.int .i64 op,.str t,lst nl l]]) v0
 have wo:∀ (j:Nat) (b:Blk),H[j]? =some b→(V++[Blk.cells [.int .i64 op,.str t,lst nl l]])[j]? =some b:=fun j b h=>z0F (vo j b h)
 have wg:=z0F (G:=[Blk.cells [.int .i64 op,.str t,lst nl l]]) vg
 have w6:(V++[Blk.cells [.int .i64 op,.str t,lst nl l]])[V.length]? =some (.cells [.int .i64 op,.str t,lst nl l]):=z0K
 generalize (V++[Blk.cells [.int .i64 op,.str t,lst nl l]]:Heap)=W at *
 generalize V.length=i6 at *
 clear v0 vo vg V
 refine z0B ?_
 refine z1Y [(2,.ptr H.length 0),(5,.ptr (H.length+1) 0),(6,.ptr i6 0),(29,.bool (bad||(k != 0)))] W ?_ ?_
 ·cases bad
  ·refine z0B ?_
   exact z0S rfl rfl
  ·refine z0B ?_
   exact z0S rfl rfl
 rcases h1 with ⟨h1,hr⟩ | ⟨h1,hok,hr⟩
 ·rw [h1]
  refine walkN ?_
  refine iw_drawX (notAt [H.length]) ?_
  refine z5K rfl rfl hx_d (z0L rfl rfl (z1U ?_))
  refine z5K rfl rfl hx_d (z1W _ rfl (z1U ?_))
  refine z5K rfl rfl hx_d (z2B rfl (z1U ?_))
  refine z5K rfl rfl hx_d (z1B rfl (z1U ?_))
  refine z5K rfl rfl (hx_l (show H.length+1∉[H.length] by simp)) (z1N (v:=.int .i64 a0) rfl wg rfl (z1U ?_))
  refine vx_b rfl rfl (Nat.le_refl _) (z0H rfl rfl w0 rfl (z4X (rload_set (by simp)) ?_))
  refine z5K rfl rfl hx_d (z1W _ rfl (z1U ?_))
  refine z5K rfl rfl hx_d (z1W _ rfl (z1U ?_))
  refine vx_done ?_
  refine z0B ?_
  exact fin (nl:=true) (l:=[]) (pl:=a0) rfl rfl rfl (z0C w0) (fun j b h=>z0A (wo j b h) (by have:=hlj j b h;omega)) hr
 rw [h1]
 have k43:=c43 (.mk op t nl l) hok W
 rw [z0X,vexpr_eq] at k43
 generalize vexpr (.mk op t nl l)=ve at *
 refine z0B ?_
 refine z0G rfl k43 ?_
 refine z0B ?_
 cases hve:(ve != 0)
 ·rw [hve] at hr
  simp only [Bool.false_eq_true,if_false] at hr
  refine z0B ?_
  refine z0H rfl rfl w0 z1C ?_
  refine z0B ?_
  exact fin (pl:=0) rfl rfl rfl (z0C w0) (fun j b h=>z0A (wo j b h) (by have:=hlj j b h;omega)) hr
 ·rw [hve] at hr
  simp only [if_true] at hr
  refine z0B ?_
  refine z0L rfl rfl ?_
  refine z0B ?_
  refine z0H rfl rfl w0 rfl ?_
  refine z0B ?_
  exact fin (nl:=true) (l:=[]) (pl:=0) rfl rfl rfl (z0C w0) (fun j b h=>z0A (wo j b h) (by have:=hlj j b h;omega)) hr
theorem depF_abs:∀ (n:Nat) (d:Int) (s:Bt),depF n d s≤d+s.length∧d-s.length≤depF n d s
 | 0,d,s=>by simp only [depF];omega
 | n+1,d,[]=>by simp only [depF];simp
 | n+1,d,c::t=>by
  have ih:=depF_abs n
  simp only [depF]
  split
  ·have:=ih d (t.drop 1);rw [List.length_drop] at this;simp only [List.length_cons];omega
  ·split
   ·have:=ih d ((c::t).drop (toGt (c::t)+1));rw [List.length_drop] at this;simp only [List.length_cons] at this ⊢;omega
   ·split
    ·have:=ih d (t.drop 1);rw [List.length_drop] at this;simp only [List.length_cons];omega
    ·split
     ·have:=ih (d+1) t;simp only [List.length_cons];omega
     ·split
      ·have:=ih (d-1) t;simp only [List.length_cons];omega
      ·have:=ih d t;simp only [List.length_cons];omega
theorem depR_abs (s:Bt):depR s≤s.length∧-(s.length:Int)≤depR s:=by
 have:=depF_abs (s.length+1) 0 s
 unfold depR;omega
def dS (l:List Bt):Int:=(l.map depR).sum
theorem dS_snoc (l:List Bt) (y:Bt):dS (l++[y])=dS l+depR y:=by simp [dS]
theorem dS_abs {l:List Bt} (h:∀ y∈l,y.length≤6000):dS l≤6000*l.length∧-(6000*(l.length:Int))≤dS l:=by
 induction l with
 | nil=>simp [dS]
 | cons y l ih =>
  have:=ih fun x hx=>h x (by simp [hx])
  have h1:=depR_abs y
  have h2:=h y (by simp)
  have e:dS (y::l)=depR y+dS l:=by simp [dS]
  rw [e,List.length_cons]
  omega
theorem join_snoc {l:List Bt} (y:Bt) (h:l≠[]):Lib.join (l++[y]) [32]=Lib.join l [32]++[32]++y:=by
 induction l with
 | nil=>exact absurd rfl h
 | cons x l ih =>
  cases l with
  | nil=>rw [Lib.join_one];show Lib.join [x,y] [32]=_;rw [z1R,Lib.join_one]
  | cons z l =>
   show Lib.join (x::z::(l++[y])) [32]=_
   rw [z1R,z1R]
   have:=ih (by simp)
   have e:(z::l++[y]:List Bt)=z::(l++[y]):=rfl
   rw [e] at this
   rw [this];simp
theorem join_take (l:List Bt) (i:Nat):(Lib.join (l.take i) [32]).length≤(Lib.join l [32]).length:=by
 by_cases hd:l.drop i=[]
 ·have:l.take i=l:=by
   conv=>rhs;rw [←List.take_append_drop i l,hd,List.append_nil]
  rw [this];exact Nat.le_refl _
 ·by_cases hn:l.take i=[]
  ·rw [hn];simp [Lib.join_nil]
  ·have hap:∀ (a b:List Bt),a≠[]→(Lib.join a [32]).length≤(Lib.join (a++b) [32]).length:=by
    intro a
    induction a with
    | nil=>intro b h;exact absurd rfl h
    | cons x a ih =>
     intro b _
     cases a with
     | nil =>
      cases b with
      | nil=>exact Nat.le_refl _
      | cons y b=>rw [Lib.join_one];show _≤(Lib.join (x::y::b) [32]).length;rw [z1R];simp
     | cons y a =>
      rw [z1R]
      have:=ih b (by simp)
      show _≤(Lib.join (x::y::(a++b)) [32]).length
      rw [z1R]
      simp at this ⊢;omega
   have:=hap _ (l.drop i) hn
   rwa [List.take_append_drop] at this
theorem res120 {al:AL} {H':Heap} {n:Nat} {cs:List AV} {b:AV} (h2:look al 4=.ptr n 0) (h3:look al 5=b) (hg:H'[n]? =some (.cells cs)) (hl:cs.length=3) :
  resultL ic120.rs al H'=some (.tuple [.agg cs,b]):=by
 have hd:dpart (some 3) cs 0=some (.agg cs):=dpart_all hl
 have e:rload (some 3) (look al 4) H'=some (.agg cs):=by rw [h2];simp only [rload,hg,hd]
 show (match resVL [.cell 4 (some 3),.tmp 5] al H' with | some [v]=>some v | some vs=>some (.tuple vs) | none=>none)=_
 simp only [resVL,e,h3]
def SdP (H:Heap) (rid:Nat) (l:List Bt) (p:Nat) (bad:Int) (g:Bool) (x:Option (Ex × Int × Nat)):CPost:=fun r H'=>match x with
 | none=>r=.ret (.tuple [enc Z0,.bool false])∧∃ b,Mod H rid b H'
 | some (e,f,k)=>r=.ret (.tuple [enc e,.bool true])∧Mod H rid (RF l (p+k) (frs1 bad f) g) H'
theorem c120 {rid p:Nat} {l:List Bt} {bad:Int} {g:Bool} {H:Heap} {sg:Bt} (hg:H[rid]? =some (RF l p bad g)) (hp:p≤l.length) (hl:l.length≤100000) (hls:∀ y∈l,y.length≤6000) (hj:(Lib.join (l.drop p) [32]).length≤6000) :
  ACall PP 120 [.ptr rid 0,.str sg] H (SdP H rid l p bad g (sideR sg (l.drop p))):=by
 have hrl:=(List.getElem?_eq_some_iff.1 hg).1
 have hsl:=sl_strs l
 have hsl2:(l.map AV.str).length=l.length:=List.length_map _
 refine is120.c2 z0V mixed rfl ?_
 rw [List.append_nil]
 have m0:Mod H rid (RF l p bad g) (H++[B0]):=(Mod.refl hg).app _
 have hb0:(H++[B0])[H.length]? =some B0:=z0K
 have hlen:(H++[B0]:Heap).length=H.length+1:=by simp
 generalize hK:takS sg 0 (l.drop p)=K
 have hKl:=takS_le sg 0 (l.drop p)
 rw [hK,List.length_drop] at hKl
 refine z0B ?_
 generalize (H++[B0]:Heap)=X at *
 refine wi_cutB (fun al' H'=>∃ tl,al'=(0,.ptr rid 0)::(1,.str sg)::(4,.ptr H.length 0)::(6,.str (Lib.join ((l.drop p).take K) [32]))::(7,.int .i64 (dS ((l.drop p).take K)))::(8,.int .i64 K)::tl∧Mod H rid (RF l (p+K) bad g) H'∧H'[H.length]? =some B0) ?_ ?_
 ·refine z1F (K+1) (fun i al H'=>al=[(0,.ptr rid 0),(1,.str sg),(4,.ptr H.length 0),(6,.str (Lib.join ((l.drop p).take i) [32])),(7,.int .i64 (dS ((l.drop p).take i))),(8,.int .i64 i)]∧Mod H rid (RF l (p+i) bad g) H'∧H'[H.length]? =some B0∧i≤K ∧
   i+takS sg (dS ((l.drop p).take i)) ((l.drop p).drop i)=K) ⟨rfl,m0,hb0,by omega,by simpa [dS] using hK⟩ ?_
  rintro i _ V hi ⟨rfl,hm,hb,hiK,htk⟩
  have hg1:=hm.get
  have hjl:=Nat.le_trans (join_take (l.drop p) i) hj
  have hda:=dS_abs (l:=(l.drop p).take i) (fun y hy=>hls y (List.mem_of_mem_drop (List.mem_of_mem_take hy)))
  rw [List.length_take,List.length_drop] at hda
  have e1:decide (((p+i:Nat):Int)<((l.map AV.str).length:Int))=decide (p+i<l.length):=by rw [hsl2];simp only [decide_eq_decide];omega
  have hsnoc:∀ y,l[p+i]? =some y→(l.drop p).take (i+1)=(l.drop p).take i++[y]:=fun y hy=>by rw [List.take_add_one,List.getElem?_drop,hy];rfl
  have htn:i=0∨(l.drop p).take i≠[]:=by
   by_cases h:i=0
   ·exact .inl h
   ·refine .inr fun e=>?_
    have:=congrArg List.length e
    rw [List.length_take,List.length_drop,List.length_nil] at this;omega
  generalize hT:(l.drop p).take i=T at *
  generalize hJ:Lib.join T [32]=S at *
  generalize hD:dS T=D at *
  refine z0B ?_
  rw [e1]
  cases hlt:decide (p+i<l.length)
  ·
   have hlt:¬ p+i<l.length:=by simpa using hlt
   have hiK':i=K:=by omega
   subst hiK'
   rw [←hJ,←hD,←hT] at *
   refine z0B ?_
   exact ⟨_,by rw [←hT],hm,hb⟩
  simp only [decide_eq_true_eq] at hlt
  obtain ⟨y,hy⟩:=z1D hlt
  have hc:(l.map AV.str)[p+i]? =some (.str y):=z3Y hy
  have hyl:=hls y (List.mem_of_getElem? hy)
  have hdy:=depR_abs y
  have hdrop:(l.drop p).drop i=y::l.drop (p+i+1):=by
   rw [List.drop_drop,List.drop_eq_getElem_cons hlt]
   rw [List.getElem?_eq_getElem hlt] at hy
   injection hy with hy;rw [hy]
  rw [hdrop,takS] at htk
  refine z0B ?_
  refine z1Y [(0,.ptr rid 0),(1,.str sg),(4,.ptr H.length 0),(6,.str S),(7,.int .i64 D),(8,.int .i64 i),(40,.bool (!(D==0&&y==sg)))] V ?_ ?_
  ·cases b1:(D==0)
   ·refine z0B ?_
    exact z0S rfl rfl
   ·refine z0B ?_
    exact z0S rfl rfl
  cases hst:(D==0&&y==sg)
  rotate_left
  ·rw [hst] at htk
   simp only [if_true] at htk
   have hiK':i=K:=by omega
   subst hiK'
   rw [←hJ,←hD,←hT] at *
   refine z0B ?_
   exact ⟨_,by rw [←hT],hm,hb⟩
  rw [hst] at htk
  simp only [Bool.false_eq_true,if_false] at htk
  have hT1:=hsnoc y hy
  have hD1:dS ((l.drop p).take (i+1))=D+depR y:=by rw [hT1,dS_snoc,hD]
  have hjl1:=Nat.le_trans (join_take (l.drop p) (i+1)) hj
  have hend:∀ {H':Heap} {S':Bt},Lib.join ((l.drop p).take (i+1)) [32]=S'→H'=V.set rid (RF l (p+i+1) bad g)→[(0,AV.ptr rid 0),(1,.str sg),(4,.ptr H.length 0),(6,.str S'),(7,.int .i64 (D+depR y)),(8,.int .i64 (i+1:Nat))] =
    [(0,AV.ptr rid 0),(1,.str sg),(4,.ptr H.length 0),(6,.str (Lib.join ((l.drop p).take (i+1)) [32])),(7,.int .i64 (dS ((l.drop p).take (i+1)))),(8,.int .i64 (i+1:Nat))]∧Mod H rid (RF l (p+(i+1)) bad g) H'∧H'[H.length]? =some B0∧i+1≤K ∧
    i+1+takS sg (dS ((l.drop p).take (i+1))) ((l.drop p).drop (i+1))=K:=by
   intro H' S' h1 h2
   subst h2
   refine ⟨by rw [h1,hD1],hm.put,z0A hb (by omega),by omega,?_⟩
   rw [hD1,show (l.drop p).drop (i+1)=l.drop (p+i+1) by rw [List.drop_drop];rfl]
   omega
  refine z0B ?_
  cases him:decide ((i:Int)>0)
  ·have hi0:i=0:=by simp at him;omega
   subst hi0
   have hT0:T=[]:=by rw [←hT];rfl
   subst hT0
   have hS0:S=[]:=by rw [←hJ];rfl
   subst hS0
   rw [hT1] at hjl1
   rw [List.nil_append,Lib.join_one] at hjl1
   refine z0B ?_
   refine z0G rfl (c176 y (by omega) _) ?_
   refine z0B ?_
   refine z3X (a:=D) (b:=depR y) rfl rfl (by omega) (by omega) ?_
   refine z0B ?_
   refine z0P (v:=.int .i64 (p+0+1:Nat)) rfl rfl hg1 rfl (by simp) ?_
   refine z0B ?_
   exact ⟨by omega,hend (by rw [hT1,List.nil_append,Lib.join_one];rfl) rfl⟩
  ·have hi0:0<i:=by simp at him;omega
   have hJ1:=join_snoc y (htn.resolve_left (by omega))
   rw [hJ] at hJ1
   rw [hT1,hJ1] at hjl1
   simp only [List.length_append,List.length_cons,List.length_nil] at hjl1
   refine z0B ?_
   refine z0G rfl (c176 y (by omega) _) ?_
   refine z0B ?_
   refine z3X (a:=D) (b:=depR y) rfl rfl (by omega) (by omega) ?_
   refine z0B ?_
   refine z0P (v:=.int .i64 (p+i+1:Nat)) rfl rfl hg1 rfl (by simp) ?_
   refine z0B ?_
   exact ⟨by omega,hend (by rw [hT1,hJ1]) rfl⟩
 rintro _ V ⟨tl,rfl,hm,hb⟩
 have hjl:=Nat.le_trans (join_take (l.drop p) K) hj
 have hsd:sideR sg (l.drop p)=if K==0 then some (lf 2,0,0)
   else if Lib.join ((l.drop p).take K) [32]==[]||(Lib.join ((l.drop p).take K) [32]).getD 0 0==32||(Lib.join ((l.drop p).take K) [32]).getD ((Lib.join ((l.drop p).take K) [32]).length-1) 0==32 then none
   else if (exP (Lib.join ((l.drop p).take K) [32])).2==2||bareR (Lib.join ((l.drop p).take K) [32]) then none
   else if (exP (Lib.join ((l.drop p).take K) [32])).2 != 0 then some (lf 2,(exP (Lib.join ((l.drop p).take K) [32])).2,K) else some ((exP (Lib.join ((l.drop p).take K) [32])).1,0,K):=by unfold sideR;rw [hK]
 generalize Lib.join ((l.drop p).take K) [32]=S at *
 generalize sideR sg (l.drop p)=sd at *
 subst hsd
 have eK:((K:Int)==0)=(K==0):=nat_eq K 0
 have hg1:=hm.get
 refine z0B ?_
 rw [eK]
 cases hk0:(K==0)
 rotate_left
 ·have:K=0:=by simpa using hk0
  subst this
  simp only [if_true]
  refine z0B ?_
  refine z0L rfl rfl ?_
  refine z0H rfl rfl hb rfl ?_
  refine z0B ?_
  exact z1G (res120 rfl rfl (z0C hb) rfl) ⟨by rw [show enc (lf 2)=_ from enc_lf 2 []];rfl,(hm.own (Nat.le_refl _) (by omega))⟩
 simp only [Bool.false_eq_true,if_false]
 have hbad:∀ {G:Heap} {al:AL},look al 4=.ptr H.length 0→look al 5=.bool false→G[H.length]? =some (.cells [.int .i64 0,.str [],.nilslice])→(∃ b,Mod H rid b G)→fpostL ic120.rs (SdP H rid l p bad g none) .ret al G:=by
  intro G al h1 h2 h3 h4
  exact z1G (res120 h1 h2 h3 rfl) ⟨by rw [enc_Z0],h4⟩
 refine z0B ?_
 refine z1Y [(0,.ptr rid 0),(4,.ptr H.length 0),(6,.str S),(96,.bool (S==[]||S.getD 0 0==32||S.getD (S.length-1) 0==32))] V ?_ ?_
 ·cases hs0:(S==[])
  ·have hS:S≠[]:=by simpa using hs0
   have hSl:0<S.length:=List.length_pos_iff.2 hS
   obtain ⟨c,hc⟩:=z1D (l:=S) (i:=0) hSl
   obtain ⟨d,hd⟩:=z1D (l:=S) (i:=S.length-1) (by omega)
   have u1:((c.toNat:Int)==32)=(c==32):=z1T c 32
   have u2:((d.toNat:Int)==32)=(d==32):=z1T d 32
   rw [z3L hc,z3L hd]
   refine z0B ?_
   rw [u1]
   cases hc32:(c==32)
   ·refine z0B ?_
    refine z3D (a:=S.length) rfl (by omega) (by omega) ?_
    refine z0B ?_
    rw [u2]
    refine z0B ?_
    exact z0S rfl rfl
   ·refine z0B ?_
    exact z0S rfl rfl
  ·refine z0B ?_
   exact z0S rfl rfl
 cases hb1:(S==[]||S.getD 0 0==32||S.getD (S.length-1) 0==32)
 rotate_left
 ·simp only [if_true]
  refine z0B ?_
  refine z0L rfl rfl ?_
  refine z0H rfl rfl hb rfl ?_
  refine z0B ?_
  exact hbad rfl rfl (z0C hb) ⟨_,hm.own (Nat.le_refl _) (by omega)⟩
 simp only [Bool.false_eq_true,if_false]
 refine z0B ?_
 refine z1H rfl (c177 S V) ?_ ?_
 rotate_left
 ·rintro v H' ⟨v',hv,_⟩;cases hv
 rintro v H' ⟨v',hv,⟨pl,rfl⟩,rfl⟩
 cases hv
 have k178:=c178 S (by omega)
 generalize bareR S=br at *
 obtain ⟨⟨⟨op,t,nl,l'⟩,f⟩,hef⟩:∃ x,exP S=x:=⟨_,rfl⟩
 rw [hef]
 simp only
 rw [z0X]
 clear hef
 refine z0B ?_
 refine z0T rfl rfl rfl rfl rfl z1C ?_
 have hb2:=z0F (G:=[Blk.cells [.int .i64 op,.str t,lst nl l']]) hb
 have m2:=hm.app [Blk.cells [.int .i64 op,.str t,lst nl l']]
 have h9:(H'++[Blk.cells [.int .i64 op,.str t,lst nl l']])[H'.length]? =some (.cells [.int .i64 op,.str t,lst nl l']):=z0K
 have hVl:=(List.getElem?_eq_some_iff.1 hb).1
 generalize (H'++[Blk.cells [.int .i64 op,.str t,lst nl l']]:Heap)=W at *
 generalize H'.length=i9 at *
 clear hb hm hg1 H'
 have hg2:=m2.get
 refine z0B ?_
 refine z1Y [(0,.ptr rid 0),(4,.ptr H.length 0),(9,.ptr i9 0),(11,.int .i64 f),(109,.bool (f==2||br))] W ?_ ?_
 ·cases b1:(f==2)
  ·refine z0B ?_
   refine z0G rfl (k178 _) ?_
   refine z0B ?_
   exact z0S rfl rfl
  ·refine z0B ?_
   exact z0S rfl rfl
 cases hfb:(f==2||br)
 rotate_left
 ·simp only [if_true]
  refine z0B ?_
  refine z0L rfl rfl ?_
  refine z0H rfl rfl hb2 rfl ?_
  refine z0B ?_
  exact hbad rfl rfl (z0C hb2) ⟨_,m2.own (Nat.le_refl _) (by omega)⟩
 simp only [Bool.false_eq_true,if_false]
 refine z0B ?_
 refine z1Y [(0,.ptr rid 0),(4,.ptr H.length 0),(9,.ptr i9 0),(11,.int .i64 f),(119,.bool (f != 0&&bad==0))] W ?_ ?_
 ·cases b1:(f != 0)
  ·refine z0B ?_
   exact z0S rfl rfl
  ·refine z0B ?_
   exact z0S rfl rfl
 refine wi_cut (fun al' H'=>∃ tl,(al'=(4,.ptr H.length 0)::(9,.ptr i9 0)::(11,.int .i64 f)::tl∨al'=(0,.ptr rid 0)::(4,.ptr H.length 0)::(9,.ptr i9 0)::(11,.int .i64 f)::tl)∧Mod H rid (RF l (p+K) (frs1 bad f) g) H'∧H'[H.length]? =some B0∧H'[i9]? =some (.cells [.int .i64 op,.str t,lst nl l'])) ?_ ?_
 ·unfold frs1
  cases hfs:(f != 0&&bad==0)
  ·simp only [Bool.false_eq_true,if_false]
   refine z0B ?_
   exact ⟨_,.inr rfl,m2,hb2,h9⟩
  ·simp only [if_true]
   refine z0B ?_
   refine z0P (v:=.int .i64 f) rfl rfl hg2 rfl (by simp) ?_
   refine z0B ?_
   exact ⟨_,.inl rfl,m2.put,z0A hb2 (by omega),z0A h9 (by omega)⟩
 clear hg2 m2 hb2 h9 W
 rintro al' W ⟨tl,ha,m2,hb2,h9⟩
 rcases ha with rfl | rfl
 all_goals
  refine z0B ?_
  cases hf0:(f != 0)
  ·simp only [Bool.false_eq_true,if_false]
   refine z0B ?_
   refine z0H rfl rfl hb2 z1C ?_
   refine z0B ?_
   exact z1G (res120 rfl rfl (z0C hb2) rfl) ⟨by rw [z0X];rfl,by
    have:f=0:=by simpa using hf0
    subst this
    exact m2.own (Nat.le_refl _) (by omega)⟩
  ·simp only [if_true]
   refine z0B ?_
   refine z0L (out:=[.int .i64 2,.str [],.nilslice]) rfl rfl ?_
   refine z0H rfl rfl h9 rfl ?_
   have h92:=z0C (y:=.cells [.int .i64 2,.str [],.nilslice]) h9
   have hb3:=z0A (y:=.cells [.int .i64 2,.str [],.nilslice]) hb2 (show H.length≠i9 by omega)
   have m3:=m2.own (x:=.cells [.int .i64 2,.str [],.nilslice]) (id:=i9) (by omega) (by omega)
   generalize W.set i9 (.cells [.int .i64 2,.str [],.nilslice])=U at *
   refine z0B ?_
   refine z0H rfl rfl hb3 rfl ?_
   refine z0B ?_
   exact z1G (res120 rfl rfl (z0C hb3) rfl) ⟨by rw [show enc (lf 2)=_ from enc_lf 2 []];rfl,m3.own (Nat.le_refl _) (by omega)⟩
end Go.Ab
