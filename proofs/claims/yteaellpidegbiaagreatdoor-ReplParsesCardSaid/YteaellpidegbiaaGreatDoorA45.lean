/- Part 45 of the proof. -/
import Derived.Test.YteaellpidegbiaaGreatDoorA44
set_option linter.unusedVariables false
set_option linter.unusedSimpArgs false
namespace Go.Ab
open Go
set_option maxRecDepth 100000
set_option maxHeartbeats 8000000
structure VZ (P:Program) (I:List Nat) (O:AV→Prop) (base:Nat) (ios:List IOper) (B:List (List Nat)) (K:KL) (G:AV→Prop) (s:Sched) (al:AL) (H:Heap):Prop where
 h:∀ S:List Rd,(∀ r∈S,r.i∈I∧O r.x∧rload r.n r.x H=some r.v)→vsL P base ios B K G s S al H
section vz
variable {P:Program} {H:Heap} {al:AL} {Q:PL} {K:KL} {I:List Nat} {O:AV→Prop} {base:Nat} {ios:List IOper} {B:List (List Nat)} {Gp:AV→Prop} {s r:Sched}
theorem vz_d {i:Nat} {d:Option Nat} {op:DOp} {as_:List Arg} {r:Option Nat} (ho:ios[i]? =some ⟨d,.i (.d op),as_,none,r⟩) (hq:isQuiet ⟨d,.i (.d op),as_,none,r⟩=true)
  (h:VV P [⟨d,.i (.d op),as_,none,r⟩] al H (fun al' _=>VZ P I O base ios B K Gp s al' H) (fun _ _ _=>False)):VZ P I O base ios B K Gp (.quiet i s) al H:=by
 refine ⟨fun S hS=>?_⟩
 obtain ⟨v,rd,h1,h2⟩:=quiet_vop (K:=fun al' _=>VZ P I O base ios B K Gp s al' H) hq h.1
 have hrd:rd=none:=by
  cases rd with
  | none=>rfl
  | some q=>obtain ⟨n,x⟩:=q;exact (hx_d (O:=fun _=>False) v n x h1).elim
 subst hrd
 simp only [vsL,ho,h1]
 exact h2.1 _ hS
theorem vz_l {i:Nat} {d:Option Nat} {k:Option Nat} {a:Arg} {r:Option Nat} (ho:ios[i]? =some ⟨d,.i (.m (.load k)),[a],none,r⟩) (hq:isQuiet ⟨d,.i (.m (.load k)),[a],none,r⟩=true) (hok:O (evL al a))
  (h:VV P [⟨d,.i (.m (.load k)),[a],none,r⟩] al H (fun al' _=>VZ P (i::I) O base ios B K Gp s al' H) (fun _ _ _=>False)):VZ P I O base ios B K Gp (.quiet i s) al H:=by
 refine ⟨fun S hS=>?_⟩
 obtain ⟨v,rd,h1,h2⟩:=quiet_vop (K:=fun al' _=>VZ P (i::I) O base ios B K Gp s al' H) hq h.1
 simp only [vsL,ho,h1]
 refine h2.1 _ fun r hr=>?_
 cases rd with
 | none=>exact ⟨List.mem_cons_of_mem _ (hS r hr).1,(hS r hr).2⟩
 | some q =>
  obtain ⟨n,u⟩:=q
  rcases List.mem_cons.1 hr with rfl | hr
  ·exact ⟨List.mem_cons_self,hx_l hok _ _ _ h1,quiet_rd h1⟩
  ·exact ⟨List.mem_cons_of_mem _ (hS r hr).1,(hS r hr).2⟩
theorem vz_c {i:Nat} {o:IOper} (ho:ios[i]? =some o) (hr:o.res=none) (hb:base≤H.length) (h:VV P [o] al H (fun al' H'=>H'=H∧VZ P I O base ios B K Gp s al' H) (fun _ v _=>Gp v)) :
  VZ P I O base ios B K Gp (.branch i s .stop) al H:=by
 refine ⟨fun S hS=>?_⟩
 have hrr:rOf base o H=H.length:=by simp [rOf,hr]
 simp only [vsL,ho,hrr]
 refine ⟨⟨?_,Nat.ble_eq_true_of_le hb,?_⟩,trivial⟩
 ·simp [freeB]
 ·refine z5J.vopL_mono h.1 ?_ (fun _ _ _ q=>q)
  rintro al' H' ⟨rfl,q⟩
  refine ⟨?_,q.1 S hS⟩
  unfold obligL
  rw [ho]
  simp only
  split
  ·trivial
  ·exact fun r hr _=>(hS r hr).2.2
theorem vz_m {i d len sz:Nat} {zs:List AV} {ps:List (Nat × Nat)} {as_:List Arg} {out:List AV} (ho:ios[i]? =some ⟨some d,.i (.m (.buildSlice len sz zs ps)),as_,none,some 0⟩)
  (hf:fillA (if len*sz=0 then [] else copies len zs) ps (evsL al as_)=some out) (hO:∀ n x v,O x→rload n x (H++[.resv])=some v→rload n x (H++[.cells out])=some v)
  (h:VZ P I O H.length ios B K Gp s ((d,.sl H.length 0 len sz)::al) (H++[.cells out])):VZ P I O H.length ios B K Gp (.branch i s .stop) al (H++[.resv]):=by
 refine ⟨fun S hS=>?_⟩
 have hrr:rOf H.length ⟨some d,.i (.m (.buildSlice len sz zs ps)),as_,none,some 0⟩ (H++[.resv])=H.length:=rfl
 have hput:put (H++[Blk.resv]) H.length (.cells out)=H++[.cells out]:=by
  unfold put
  rw [if_pos (by simp),List.set_append_right _ _ (Nat.le_refl _),Nat.sub_self];rfl
 have hS':∀ r∈S,r.i∈I∧O r.x∧rload r.n r.x (H++[.cells out])=some r.v:=fun r hr=>⟨(hS r hr).1,(hS r hr).2.1,hO _ _ _ (hS r hr).2.1 (hS r hr).2.2⟩
 simp only [vsL,ho,hrr]
 refine ⟨⟨?_,Nat.ble_eq_true_of_le (Nat.le_refl _),?_⟩,trivial⟩
 ·simp [freeB]
 ·have hi:isem (.m (.buildSlice len sz zs ps)) (evsL al as_) (H++[.resv]) H.length=some (.sl H.length 0 len sz,H++[.cells out]):=by
   simp only [isem,msem,hf]
   rw [hput]
  simp only [vopL,vexecL,hi]
  refine ⟨?_,h.1 S hS'⟩
  unfold obligL
  rw [ho]
  simp only
  split
  ·trivial
  ·exact fun r hr _=>(hS' r hr).2.2
theorem vz_e {i:Nat} {o:IOper} (ho:ios[i]? =some o) (hr:o.res=none) (hI:I.all (fun j=>(blen B i).contains j)=true) (hb:base≤H.length)
  (h:VV P [o] al H (fun al' H'=>K al' H') (fun _ v _=>Gp v)):VZ P I O base ios B K Gp (.branch i .done .stop) al H:=by
 refine ⟨fun S hS=>?_⟩
 have hrr:rOf base o H=H.length:=by simp [rOf,hr]
 simp only [vsL,ho,hrr]
 refine ⟨⟨?_,Nat.ble_eq_true_of_le hb,?_⟩,trivial⟩
 ·simp [freeB]
 ·refine z5J.vopL_mono h.1 ?_ (fun _ _ _ q=>q)
  rintro al' H' q
  refine ⟨?_,q⟩
  unfold obligL
  rw [ho]
  simp only
  split
  ·trivial
  ·intro r hr hc
   have:=List.all_eq_true.1 hI r.i (hS r hr).1
   rw [this] at hc;cases hc
theorem vz_or {i:Nat} (h:VZ P I O base ios B K Gp (.branch i s .stop) al H) (h2:VZ P I O base ios B K Gp r al H):VZ P I O base ios B K Gp (.branch i s r) al H:=by
 refine ⟨fun S hS=>⟨(h.1 S hS).1,?_⟩⟩
 cases r with
 | stop=>trivial
 | done=>exact h2.1 S hS
 | quiet=>exact h2.1 S hS
 | branch=>exact h2.1 S hS
theorem iw_drawZ {ks:List Nat} (O:AV→Prop) (h:VZ P [] O H.length ios B (fun a h=>Q .normal (keepL a ks) h) (fun _=>False) s al (H++[.resv])):WI P (.draw 1 ios B s (some ks)) Q al H:=by
 refine ⟨⟨fun _=>False,fun _ _ f=>f.elim,?_⟩⟩
 have:reserve H 1=H++[.resv]:=by simp [reserve]
 rw [this]
 exact h.1 [] (by simp)
theorem iw_drawZf {ks:List Nat} {kal:AL} {Hf:Heap} (O:AV→Prop) (hq:Q .normal kal Hf) (h:(∀ a h,keepL a ks=kal→h=Hf→Q .normal (keepL a ks) h)→VZ P [] O H.length ios B (fun a h=>Q .normal (keepL a ks) h) (fun _=>False) s al (H++[.resv])):WI P (.draw 1 ios B s (some ks)) Q al H :=
 iw_drawZ O (h fun a h e1 e2=>by rw [e1,e2];exact hq)
theorem z4K {J:List Nat} {H':Heap} {Qp:AL→AV→Heap→Prop} (h:VZ P J O base ios B K Gp s al H'):VV P [] al H (fun a _=>VZ P J O base ios B K Gp s a H') Qp:=⟨h⟩
theorem st_finZC {J:List Nat} {Qp:AL→AV→Heap→Prop} (h:VZ P J O base ios B K Gp s al H):VV P [] al H (fun a h=>h=H∧VZ P J O base ios B K Gp s a H) Qp:=⟨rfl,h⟩
theorem st_finZE {Qp:AL→AV→Heap→Prop} (h:K al H):VV P [] al H (fun a h=>K a h) Qp:=⟨h⟩
def belowA (n:Nat):AV→Prop
 | .ptr j _=>j<n
 | _=>True
theorem belowA_rd {b b':Blk}:∀ n x v,belowA H.length x→rload n x (H++[b])=some v→rload n x (H++[b'])=some v:=by
 intro n x v ho hl
 cases x with
 | ptr j off =>
  have hj:j<H.length:=ho
  simp only [rload,List.getElem?_append_left hj] at hl ⊢
  exact hl
 | _=>exact hl
end vz
def WRA (n:Nat):Prop:=∀ {rid:Nat} {s:Bt} {p:Nat} {sym:Bt} {H:Heap},H[rid]? =some (advB s p sym false)→p≤s.length→s.length≤6000→pe n .atom s p≠.oof→(∀ t,tkn s p=.ok t→t.1≠[126]∧t.1≠[36])→ACall PP 290 [.ptr rid 0] H (ReP H rid s (pe n .atom s p))
theorem c290_4 {rid a0 nx:Nat} {s sym:Bt} {H:Heap} (hg:H[rid]? =some (RE s a0 nx 4 sym false)):ACall PP 290 [.ptr rid 0] H (ReP H rid s .bad):=by
 have hrl:=(List.getElem?_eq_some_iff.1 hg).1
 refine ACall.sealed (n:=H.length) ?_
 refine is290.c1 z0V mixed rfl ?_
 rw [List.append_nil]
 have m0:Mod H rid (RE s a0 nx 4 sym false) (H++[B0]):=(Mod.refl hg).app _
 have hb0:(H++[B0])[H.length]? =some B0:=z0K
 refine z0B ?_
 refine z0L rfl rfl ?_
 refine z0B ?_
 have hb1:(H++[B0]++[B0])[(H++[B0]:Heap).length]? =some B0:=z0K
 refine z0H rfl rfl hb1 rfl ?_
 have hb2:=z0C (y:=.cells [.int .i64 0,.str [],.nilslice]) hb1
 have hb02:=z0A (y:=.cells [.int .i64 0,.str [],.nilslice]) (b:=(H++[B0]:Heap).length) (z0F (G:=[B0]) hb0) (by simp)
 have m2:Mod H rid (RE s a0 nx 4 sym false) ((H++[B0]++[B0]).set (H++[B0]:Heap).length (.cells [.int .i64 0,.str [],.nilslice])):=(m0.app [B0]).own (by simp) (by simp;omega)
 have hln:(H++[B0]:Heap).length=H.length+1:=by simp
 rw [hln] at hb2 hb02 m2 ⊢
 generalize (H++[B0]++[B0]).set (H.length+1) (.cells [.int .i64 0,.str [],.nilslice])=H2 at *
 have hg2:=m2.get
 refine z0B ?_
 refine z0P (v:=.bool true) rfl rfl hg2 rfl (by simp) ?_
 show VV _ _ _ (H2.set rid (RE s a0 nx 4 sym true)) _ _
 have m3:Mod H rid (RE s a0 nx 4 sym true) (H2.set rid (RE s a0 nx 4 sym true)):=m2.put
 have hb3:=z0A (y:=RE s a0 nx 4 sym true) hb2 (show H.length+1≠rid by omega)
 have hb03:=z0A (y:=RE s a0 nx 4 sym true) hb02 (show H.length≠rid by omega)
 generalize H2.set rid (RE s a0 nx 4 sym true)=H3 at *
 have hg3:=m3.get
 refine z0B ?_
 refine z0H rfl rfl hb03 rfl ?_
 refine z0B ?_
 exact z1G (z1E rfl (z0C hb03)) (z4C (e:=lf 0) (enc_lf 0 []).symm (.inr ⟨rfl,_,_,_,_,_,rfl,.inl rfl⟩) (m3.own (Nat.le_refl _) (by omega)))
theorem c281 (n:Nat) (hk:WR n 281 [] .ahead) (ha:WRA n):WR (n+1) 281 [] .ahead:=by
 intro rid s p sym H hg hp hs hne
 have hrl:=(List.getElem?_eq_some_iff.1 hg).1
 obtain ⟨nx,k,sym2,hopen,hO⟩:=adv_open sym false hp
 have hgo:=hg
 rw [hopen] at hgo
 simp only [pe] at hne ⊢
 generalize hx:(tkn s p).bind _=xx at hne ⊢
 refine ACall.sealed (n:=H.length) ?_
 refine is281.c1 z0V mixed rfl ?_
 rw [List.append_nil]
 have m0:Mod H rid (advB s p sym false) (H++[B0]):=(Mod.refl hg).app _
 have m0':Mod H rid (RE s (skp s p) nx k sym2 false) (H++[B0]):=(Mod.refl hgo).app _
 have hb0:(H++[B0])[H.length]? =some B0:=z0K
 have hlen:(H++[B0]:Heap).length=H.length+1:=by simp
 have h3:(∃ op,((k==126)=true∨(k==126)=false∧(k==36)=true)∧opR k=op∧nx≤s.length∧((pe n .ahead s nx).bind fun x=>.ok (nd op [x.1],x.2))=xx) ∨
   ((k==126)=false∧(k==36)=false∧((k=4∧xx=.bad)∨(∀ t,tkn s (skp s p)=.ok t→t.1≠[126]∧t.1≠[36])∧((pe n .atom s (skp s p)).bind fun a=>pe n (.postL a.1) s a.2)=xx)):=by
  rcases hO.h with ⟨h1,rfl⟩ | ⟨t,h1,h2,h3,h4,h5,_⟩
  ·rw [h1] at hx;exact .inr ⟨rfl,rfl,.inl ⟨rfl,hx.symm⟩⟩
  ·rw [h1,z0R] at hx
   simp only at hx
   have k1:(k==126)=(t==[126]):=by rw [h5];exact z4M (c:=126) h2 rfl
   have k2:(k==36)=(t==[36]):=by rw [h5];exact z4M (c:=36) h2 rfl
   rw [k1,k2]
   cases b1:(t==[126])
   ·rw [b1] at hx
    simp only [Bool.false_eq_true,if_false] at hx
    cases b2:(t==[36])
    ·rw [b2] at hx
     simp only [Bool.false_eq_true,if_false] at hx
     exact .inr ⟨rfl,rfl,.inr ⟨fun u hu=>by
      rw [tkn_skp,h1] at hu;injection hu with hu;subst hu
      exact ⟨by simpa using b1,by simpa using b2⟩,hx⟩⟩
    ·rw [b2] at hx
     simp only [if_true] at hx
     have e1:=z1X b2
     simp only [List.length_cons,List.length_nil] at e1
     rw [show skp s p+1=nx by omega] at hx
     rw [b2] at k2
     have:k=36:=by simpa using k2
     subst this
     exact .inl ⟨12,.inr ⟨rfl,rfl⟩,rfl,h4,hx⟩
   ·rw [b1] at hx
    simp only [if_true] at hx
    have e1:=z1X b1
    simp only [List.length_cons,List.length_nil] at e1
    rw [show skp s p+1=nx by omega] at hx
    rw [b1] at k1
    have:k=126:=by simpa using k1
    subst this
    exact .inl ⟨11,.inl rfl,rfl,h4,hx⟩
 clear hx
 have hg0:=m0'.get
 rcases h3 with ⟨op,hks,hop,hn1,hx⟩ | ⟨k1,k2,h3⟩
 ·have hne1:pe n .ahead s nx≠.oof:=fun e=>hne (by rw [←hx,e];rfl)
  have hcom:∀ {H:Heap} {rid:Nat},H[rid]? =some (advB s nx sym2 false)→ACall PP 281 [.ptr rid 0] H (ReP H rid s (pe n .ahead s nx)):=fun h=>hk h hn1 hs hne1
  refine z0B ?_
  refine z1Y [(0,.ptr rid 0),(2,.ptr H.length 0),(16,.bool true)] (H++[B0]) ?_ ?_
  ·rcases hks with k1 | ⟨k1,k2⟩
   ·refine z0B ?_
    exact z0S rfl rfl
   ·refine z0B ?_
    exact z0S (by simp only [k2];rfl) rfl
  refine z0B ?_
  refine z0G rfl (c266 _ _) ?_
  rw [hop]
  refine z0B ?_
  refine z4Y rfl hg0 hn1 (by omega) fun v=>?_
  have m1:Mod H rid (advB s nx sym2 false) ((H++[B0]).set rid (advB s nx sym2 false)):=m0'.put
  have hb1:=z0A (y:=advB s nx sym2 false) hb0 (show H.length≠rid by omega)
  generalize (H++[B0]).set rid (advB s nx sym2 false)=H1 at *
  refine z0B ?_
  refine z5F (args:=[.ptr rid 0]) (by rfl) (hcom m1.get) ?_
  intro op' t' nl l b3 H3 hst hm3
  have hb3:=hm3.old _ _ (by omega) hb1
  have m3:=m1.trans hm3
  have hst':StP s xx (nd op [.mk op' t' nl l]) b3:=by
   rcases hst with ⟨q,sym',he,hb⟩ | ⟨he,hb⟩
   ·rw [he] at hx;exact .inl ⟨q,sym',hx.symm,hb⟩
   ·rw [he] at hx;exact .inr ⟨hx.symm,hb⟩
  refine z1A (out:=flatE [.mk op' t' nl l]) (by rw [z0U];rfl) ?_
  have hl3:=(List.getElem?_eq_some_iff.1 hb3).1
  refine z0L rfl rfl ?_
  refine z0H rfl rfl (z0F hb3) rfl ?_
  refine z0B ?_
  exact z1G (z1E rfl (z0C (z0F hb3))) (z5E (l:=[.mk op' t' nl l]) hst' (z0A z0K (by omega)) (by omega) ((m3.app _).own (Nat.le_refl _) (by omega)) hrl)
 have hcall:ACall PP 290 [.ptr rid 0] (H++[B0]) (fun r H'=>∃ x2,ReP (H++[B0]) rid s x2 r H'∧((x2=.bad∧xx=.bad)∨∃ q e,x2=.ok (e,q)∧q≤s.length∧pe n (.postL e) s q=xx)):=by
  rcases h3 with ⟨rfl,hxb⟩ | ⟨hno,hx⟩
  ·exact (c290_4 hg0).mono fun r H' h=>⟨_,h,.inl ⟨rfl,hxb⟩⟩
  ·have hne1:pe n .atom s (skp s p)≠.oof:=fun e=>hne (by rw [←hx,e];rfl)
   have hsl:=z5A hp
   have hg2:(H++[B0])[rid]? =some (advB s (skp s p) sym false):=by rw [advB_skp];exact m0.get
   refine (ha hg2 hsl hs hne1 hno).mono fun r H' h=>⟨_,h,?_⟩
   cases he:pe n .atom s (skp s p) with
   | oof=>exact absurd he hne1
   | bad=>rw [he] at hx;exact .inl ⟨rfl,hx.symm⟩
   | ok w =>
    obtain ⟨e,q⟩:=w
    obtain ⟨a1,a2,a3,a4⟩:=pe_ok _ _ _ _ _ rfl he hsl
    rw [he,z0R] at hx
    exact .inr ⟨q,e,rfl,a2,hx⟩
 clear h3
 refine z0B ?_
 refine z1H rfl hcall ?_ ?_
 rotate_left
 ·rintro v H' ⟨x2,h,_⟩
  rcases h with ⟨v',hv,_⟩ | ⟨v',_,hf⟩
  ·cases hv
  ·exact hf.elim
 rintro v H1 ⟨x2,h,hx2⟩
 have hv:∃ e b,v=enc e∧Mod (H++[B0]) rid b H1∧((∃ q sym,b=advB s q sym false∧q≤s.length∧pe n (.postL e) s q=xx)∨(FlB s b∧xx=.bad)):=by
  rcases h with ⟨v',hv,e,b,rfl,hm,hst⟩ | ⟨v',hv,_⟩
  ·cases hv
   refine ⟨e,b,rfl,hm,?_⟩
   rcases hst with ⟨q,sym',he,hb⟩ | ⟨he,hb⟩
   ·rcases hx2 with ⟨h2,_⟩ | ⟨q2,e2,h2,h4,h5⟩
    ·rw [h2] at he;cases he
    ·rw [h2] at he;injection he with he;injection he with h6 h7;subst h6;subst h7
     exact .inl ⟨_,sym',hb,h4,h5⟩
   ·rcases hx2 with ⟨_,h2⟩ | ⟨q2,e2,h2,h4,h5⟩
    ·exact .inr ⟨hb,h2⟩
    ·rw [h2] at he;cases he
  ·cases hv
 clear h hx2
 obtain ⟨⟨op1,t1,nl1,l1⟩,b,rfl,hm,hJ⟩:=hv
 rw [z0X]
 have hb1:H1[H.length]? =some B0:=hm.old _ _ (by omega) hb0
 have m1:=m0.trans hm
 refine z1M ?_
 refine z0T rfl rfl rfl rfl rfl z1C ?_
 have m2:=m1.app [.cells [.int .i64 op1,.str t1,lst nl1 l1]]
 have hb2:=z0F (G:=[.cells [.int .i64 op1,.str t1,lst nl1 l1]]) hb1
 have hla:(H1++[Blk.cells [.int .i64 op1,.str t1,lst nl1 l1]])[H1.length]? =some (.cells [.int .i64 op1,.str t1,lst nl1 l1]):=z0K
 have hl2:=(List.getElem?_eq_some_iff.1 hb1).1
 generalize (H1++[Blk.cells [.int .i64 op1,.str t1,lst nl1 l1]]:Heap)=H2 at *
 generalize H1.length=b9 at *
 refine z0B ?_
 refine wi_cutB (fun al' H'=>∃ c0 c1 c2 a b tl,al'=(0,.ptr rid 0)::(2,.ptr H.length 0)::(4,.ptr b9 0)::tl∧H'[b9]? =some (.cells [c0,c1,c2])∧([c0,c1,c2]:List AV).all AV.scalar=true ∧
  Nest (b9+1) H' H'.length [c0,c1,c2] a∧H'[H.length]? =some B0∧Mod H rid b H'∧StP s xx a b) ?_ ?_
 ·refine z1S (fun m al H'=>∃ c0 c1 c2 a b,al=[(0,.ptr rid 0),(2,.ptr H.length 0),(4,.ptr b9 0)]∧H'[b9]? =some (.cells [c0,c1,c2])∧([c0,c1,c2]:List AV).all AV.scalar=true ∧
   Nest (b9+1) H' H'.length [c0,c1,c2] a∧H'[H.length]? =some B0∧Mod H rid b H'∧m≤n ∧
   ((∃ q sym,b=advB s q sym false∧q≤s.length∧pe m (.postL a) s q=xx)∨(FlB s b∧xx=.bad))) n ⟨_,_,_,.mk op1 t1 nl1 l1,b,rfl,hla,z1C,.base _ _ _ _ _,hb2,m2,Nat.le_refl _,hJ⟩ ?_
  clear hla hb1 m1 hb0 hm hlen m2 hb2 hJ hcall m0 m0' hg0
  rintro m _ H1 ⟨c0,c1,c2,a,b,rfl,h9,hsc,hN,hb0,hm,hmn,hJ⟩
  rcases hJ with ⟨q,sym',rfl,hq,hx⟩ | ⟨⟨a0,nx0,k0,sym',bad,rfl,hf⟩,hxb⟩
  rotate_left
  ·
   have hg1:=hm.get
   have hst:StP s xx a (RE s a0 nx0 k0 sym' bad):=.inr ⟨hxb,_,_,_,_,_,rfl,hf⟩
   refine z0B ?_
   cases bad
   ·have hk4:k0=4:=by simpa using hf
    subst hk4
    refine z0B ?_
    exact ⟨_,_,_,a,_,_,rfl,h9,hsc,hN,hb0,hm,hst⟩
   ·refine z0B ?_
    exact ⟨_,_,_,a,_,_,rfl,h9,hsc,hN,hb0,hm,hst⟩
  cases m with
  | zero=>exact absurd hx.symm hne
  | succ m =>
  simp only [pe] at hx
  obtain ⟨nx1,k3,sym3,hopen3,hO3⟩:=adv_open sym' false hq
  have hm':=hm
  rw [hopen3] at hm'
  have hg1:=hm'.get
  have h4:(((k3==42)||(k3==43)||(k3==63))=true∧∃ op,opR k3=op∧nx1≤s.length∧pe m (.postL (nd op [a])) s nx1=xx) ∨
    (((k3==42)||(k3==43)||(k3==63))=false∧StP s xx a (RE s (skp s q) nx1 k3 sym3 false)):=by
   rcases hO3.h with ⟨h1,rfl⟩ | ⟨t,h1,h2,h3,h4,h5,_⟩
   ·rw [h1] at hx
    exact .inr ⟨rfl,.inr ⟨hx.symm,_,_,_,_,_,rfl,.inr rfl⟩⟩
   ·rw [h1,z0R] at hx
    simp only at hx
    have j1:(k3==42)=(t==[42]):=by rw [h5];exact z4M (c:=42) h2 rfl
    have j2:(k3==43)=(t==[43]):=by rw [h5];exact z4M (c:=43) h2 rfl
    have j3:(k3==63)=(t==[63]):=by rw [h5];exact z4M (c:=63) h2 rfl
    rw [j1,j2,j3]
    have one:∀ {c:UInt8},(t==[c])=true→skp s q+1=nx1:=fun h=>by
     have:=z1X h
     simp only [List.length_cons,List.length_nil] at this;omega
    cases d1:(t==[42])
    rotate_left
    ·rw [d1] at hx j1
     simp only [if_true] at hx
     rw [one d1] at hx
     have:k3=42:=by simpa using j1
     subst this
     exact .inl ⟨rfl,8,rfl,h4,hx⟩
    rw [d1] at hx
    simp only [Bool.false_eq_true,if_false] at hx
    cases d2:(t==[43])
    rotate_left
    ·rw [d2] at hx j2
     simp only [if_true] at hx
     rw [one d2] at hx
     have:k3=43:=by simpa using j2
     subst this
     exact .inl ⟨rfl,9,rfl,h4,hx⟩
    rw [d2] at hx
    simp only [Bool.false_eq_true,if_false] at hx
    cases d3:(t==[63])
    rotate_left
    ·rw [d3] at hx j3
     simp only [if_true] at hx
     rw [one d3] at hx
     have:k3=63:=by simpa using j3
     subst this
     exact .inl ⟨rfl,10,rfl,h4,hx⟩
    rw [d3] at hx
    simp only [Bool.false_eq_true,if_false] at hx
    refine .inr ⟨rfl,?_⟩
    rw [←hopen3]
    exact StP.ok hx.symm (advB_skp _ _ _ _).symm
  refine z0B ?_
  refine z1Y [(0,.ptr rid 0),(2,.ptr H.length 0),(4,.ptr b9 0),(56,.bool ((k3==42)||(k3==43)||(k3==63)))] H1 ?_ ?_
  ·cases d1:(k3==42)
   ·refine z0B ?_
    cases d2:(k3==43)
    ·refine z0B ?_
     exact z0S rfl rfl
    ·refine z0B ?_
     exact z0S rfl rfl
   ·refine z0B ?_
    exact z0S rfl rfl
  rcases h4 with ⟨hc,op,hop,hn1,hx⟩ | ⟨hc,hst⟩
  rotate_left
  ·rw [hc]
   refine z0B ?_
   exact ⟨_,_,_,a,_,_,rfl,h9,hsc,hN,hb0,hm',hst⟩
  rw [hc]
  have h9l:=(List.getElem?_eq_some_iff.1 h9).1
  have hril:=(List.getElem?_eq_some_iff.1 hg1).1
  refine z2D ?_
  have hold:∀ {j:Nat} {x:Blk},H1[j]? =some x→j≠b9→((H1++[Blk.cells [c0,c1,c2]]).set b9 (.cells [.int .i64 op,.str [],.sl H1.length 0 1 3]))[j]? =some x:=fun h hj=>z0A (z0F h) hj
  refine iw_drawZf (kal:=[(0,.ptr rid 0),(2,.ptr H.length 0),(4,.ptr b9 0)]) (Hf:=(H1++[Blk.cells [c0,c1,c2]]).set b9 (.cells [.int .i64 op,.str [],.sl H1.length 0 1 3])) (belowA H1.length) ?_ fun fin=>?_
  rotate_left
  ·refine vz_d rfl rfl (z1W _ rfl (z4K ?_))
   refine vz_d rfl rfl (z2B rfl (z4K ?_))
   refine vz_d rfl rfl (z1B rfl (z4K ?_))
   refine vz_l rfl rfl hril (z1N (v:=.int .i64 k3) rfl (z0F hg1) rfl (z4K ?_))
   refine vz_l rfl rfl h9l (z4U rfl (z0F h9) (z4K ?_))
   refine vz_or ?_ ?_
   ·refine vz_c rfl rfl (by simp) (z0G rfl (c266 _ _) (st_finZC ?_))
    rw [hop]
    refine vz_m (out:=[c0,c1,c2]) rfl rfl belowA_rd ?_
    refine vz_d rfl rfl (z0L rfl rfl (z4K ?_))
    refine vz_e rfl rfl rfl (by simp) (z0H rfl rfl (z0F h9) rfl (st_finZE ?_))
    exact fin _ _ rfl rfl
   ·refine vz_m (out:=[c0,c1,c2]) rfl rfl belowA_rd ?_
    refine vz_c rfl rfl (by simp) (z0G rfl (c266 _ _) (st_finZC ?_))
    rw [hop]
    refine vz_d rfl rfl (z0L rfl rfl (z4K ?_))
    refine vz_e rfl rfl rfl (by simp) (z0H rfl rfl (z0F h9) rfl (st_finZE ?_))
    exact fin _ _ rfl rfl
  have hg2:=hold hg1 (by omega)
  have hb2:=hold hb0 (by omega)
  have h92:=z0C (y:=.cells [.int .i64 op,.str [],.sl H1.length 0 1 3]) (z0F (G:=[Blk.cells [c0,c1,c2]]) h9)
  have m2:Mod H rid (RE s (skp s q) nx1 k3 sym3 false) ((H1++[Blk.cells [c0,c1,c2]]).set b9 (.cells [.int .i64 op,.str [],.sl H1.length 0 1 3])):=(hm'.app _).own (by omega) (by omega)
  have hN2:Nest (b9+1) ((H1++[Blk.cells [c0,c1,c2]]).set b9 (.cells [.int .i64 op,.str [],.sl H1.length 0 1 3])) (H1.length+1) [.int .i64 op,.str [],.sl H1.length 0 1 3] (nd op [a]) :=
   .node _ H1.length op [c0,c1,c2] a [] (by omega) (by omega) (z0A z0K (by omega)) rfl (hN.mono (Nat.le_refl _) fun j b h1 h2 h3=>hold h3 (by omega))
  have hl2:((H1++[Blk.cells [c0,c1,c2]]).set b9 (.cells [.int .i64 op,.str [],.sl H1.length 0 1 3]):Heap).length=H1.length+1:=by simp
  rw [←hl2] at hN2
  generalize ((H1++[Blk.cells [c0,c1,c2]]).set b9 (.cells [.int .i64 op,.str [],.sl H1.length 0 1 3]):Heap)=H2 at *
  refine z0B ?_
  refine z4Y rfl hg2 hn1 (by omega) fun v=>?_
  refine z0B ?_
  have hl3:(H2.set rid (advB s nx1 sym3 false)).length=H2.length:=List.length_set
  refine ⟨m,by omega,_,_,_,nd op [a],advB s nx1 sym3 false,rfl,z0A h92 (by omega),rfl,?_,z0A hb2 (by omega),m2.put,by omega,.inl ⟨nx1,sym3,rfl,hn1,hx⟩⟩
  rw [hl3]
  exact hN2.mono (Nat.le_refl _) fun j b h1 h2 h3=>z0A h3 (by omega)
 clear hla hb1 m1 hb0 hm hlen m2 hb2 hJ hcall m0 m0' hg0
 rintro _ H1 ⟨c0,c1,c2,a,b,tl,rfl,h9,hsc,hN,hb0,hm,hst⟩
 refine z0B ?_
 refine z0H rfl rfl hb0 hsc ?_
 refine z0B ?_
 have hN3:Nest (b9+1) (H1.set H.length (.cells [c0,c1,c2])) H1.length [c0,c1,c2] a:=hN.mono (Nat.le_refl _) fun j b h1 h2 h3=>z0A h3 (by omega)
 obtain ⟨K,hK⟩:=hN3.seals.2 _ fun j b _ _ h=>h
 have hK:=hK.mono (m:=H.length) (by omega)
 have m3:Mod H rid b (H1.set H.length (.cells [c0,c1,c2])):=hm.own (Nat.le_refl _) (by omega)
 exact z1G (z1E rfl (z0C hb0)) (.inl ⟨_,_,K,rfl,hK,a,b,rfl,m3.seals hrl (Nat.le_refl _) hK,hst⟩)
theorem atom_cases {n:Nat} {s:Bt} {p nx:Nat} {k:Int} {sym:Bt} {xx:PR (Ex × Nat)} (hO:Opn s p nx k sym) (hno:∀ t,tkn s p=.ok t→t.1≠[126]∧t.1≠[36]) (hx:pe (n+1) .atom s p=xx) :
  (k=1∧xx=.ok (.mk 0 sym true [],nx)∧nx≤s.length)∨(k=3∧xx=.ok (lf 2,nx)∧nx≤s.length)∨(k=46∧xx=.ok (lf 1,nx)∧nx≤s.length)∨(k=33∧xx=.ok (lf 3,nx)∧nx≤s.length) ∨
  (k=91∧nx≤s.length∧((pe n .only s nx).bind fun a=>(tak [93] s a.2).bind fun y=>if y.1 then .ok (a.1,y.2) else .bad)=xx) ∨
  ((k==1)=false∧(k==3)=false∧(k==46)=false∧(k==33)=false∧(k==91)=false∧xx=.bad):=by
 simp only [pe] at hx
 rcases hO.h with ⟨h1,rfl⟩ | ⟨t,h1,h2,h3,h4,h5,h6⟩
 ·rw [h1] at hx;exact .inr (.inr (.inr (.inr (.inr ⟨rfl,rfl,rfl,rfl,rfl,hx.symm⟩))))
 ·obtain ⟨n1,n2⟩:=hno _ h1
  rw [h1,z0R] at hx
  simp only at hx n1 n2
  have hb:=atom_bgn h2
  rw [←h5] at hb
  cases hbg:bgn t
  ·rw [hbg] at hx hb
   simp only [Bool.not_false,if_true] at hx
   unfold atomK at hb
   simp only [Bool.or_eq_false_iff] at hb
   obtain ⟨⟨⟨⟨⟨⟨a1,a2⟩,a3⟩,a4⟩,a5⟩,_⟩,_⟩:=hb
   exact .inr (.inr (.inr (.inr (.inr ⟨a1,a2,a3,a4,a5,hx.symm⟩))))
  ·rw [hbg] at hx
   simp only [Bool.not_true,Bool.false_eq_true,if_false] at hx
   have sg:∀ {c:UInt8},sg15.contains c=true→(k==(c.toNat:Int))=(t==[c]):=fun hc=>by rw [h5];exact z4M h2 hc
   cases b1:(t==[46])
   rotate_left
   ·have j:=sg (c:=46) rfl
    rw [b1] at hx j
    simp only [if_true] at hx
    have e:=z1X b1
    simp only [List.length_cons,List.length_nil] at e
    exact .inr (.inr (.inl ⟨by simpa using j,by rw [←hx];congr 2;omega,h4⟩))
   rw [b1] at hx
   simp only [Bool.false_eq_true,if_false] at hx
   cases b2:(t==[91,93])
   rotate_left
   ·rw [b2] at hx
    simp only [if_true] at hx
    have e:t=[91,93]:=by simpa using b2
    subst e
    exact .inr (.inl ⟨h5,by rw [←hx,h3];rfl,h4⟩)
   rw [b2] at hx
   simp only [Bool.false_eq_true,if_false] at hx
   cases b3:(t==[33])
   rotate_left
   ·have j:=sg (c:=33) rfl
    rw [b3] at hx j
    simp only [if_true] at hx
    have e:=z1X b3
    simp only [List.length_cons,List.length_nil] at e
    exact .inr (.inr (.inr (.inl ⟨by simpa using j,by rw [←hx];congr 2;omega,h4⟩)))
   rw [b3] at hx
   simp only [Bool.false_eq_true,if_false] at hx
   cases b4:(t==[91])
   rotate_left
   ·have j:=sg (c:=91) rfl
    rw [b4] at hx j
    simp only [if_true] at hx
    have e:=z1X b4
    simp only [List.length_cons,List.length_nil] at e
    rw [show skp s p+1=nx by omega] at hx
    exact .inr (.inr (.inr (.inr (.inl ⟨by simpa using j,h4,hx⟩))))
   rw [b4] at hx
   simp only [Bool.false_eq_true,if_false] at hx
   have hk1:k=1:=by
    rw [h5]
    match t,h2,hbg,b2 with
    | [],_,hbg,_=>cases hbg
    | [d],h2,hbg,_ =>
     cases hd:isAl d
     ·have hm:d=95∨d=45∨d=124∨d=38∨d=37∨d=47∨d=126∨d=36∨d=42∨d=43∨d=63∨d=46∨d=33∨d=91∨d=93:=by
       have:=(tok_one h2).resolve_left (by rw [hd];simp)
       simpa [sg15] using this
      rcases hm with rfl | rfl | rfl | rfl | rfl | rfl | rfl | rfl | rfl | rfl | rfl | rfl | rfl | rfl | rfl
      all_goals first | (exact absurd hbg (by decide)) | (exact absurd rfl n1) | (exact absurd rfl n2) | (exact absurd b1 (by decide)) | (exact absurd b3 (by decide)) | (exact absurd b4 (by decide))
     ·exact tkK_al hd
    | a::b::t,_,hbg,b2 =>
     rw [tkK_big (by simp),b2]
     cases h:((a::b::t:Bt)==[61,62])
     ·rfl
     ·have:(a::b::t:Bt)=[61,62]:=by simpa using h
      rw [this] at hbg;cases hbg
   refine .inl ⟨hk1,?_,h4⟩
   rw [h6 hk1,h3,←hx]
   unfold tkS
   split
   ·rfl
   ·split<;>rfl
theorem c290 (n:Nat) (hk:WR n 216 [] .only):WRA (n+1):=by
 intro rid s p sym H hg hp hs hne hno
 have hrl:=(List.getElem?_eq_some_iff.1 hg).1
 obtain ⟨nx,k,sym2,hopen,hO⟩:=adv_open sym false hp
 rw [hopen] at hg
 generalize hx:pe (n+1) .atom s p=xx at hne ⊢
 have hD:=atom_cases hO hno hx
 clear hx hno hopen
 refine ACall.sealed (n:=H.length) ?_
 refine is290.c1 z0V mixed rfl ?_
 rw [List.append_nil]
 have m0:Mod H rid (RE s (skp s p) nx k sym2 false) (H++[B0]):=(Mod.refl hg).app _
 have hb0:(H++[B0])[H.length]? =some B0:=z0K
 refine z0B ?_
 refine z0L rfl rfl ?_
 refine z0B ?_
 have hb1:(H++[B0]++[B0])[(H++[B0]:Heap).length]? =some B0:=z0K
 refine z0H rfl rfl hb1 rfl ?_
 have hb2:=z0C (y:=.cells [.int .i64 0,.str [],.nilslice]) hb1
 have hb02:=z0A (y:=.cells [.int .i64 0,.str [],.nilslice]) (b:=(H++[B0]:Heap).length) (z0F (G:=[B0]) hb0) (by simp)
 have m2:Mod H rid (RE s (skp s p) nx k sym2 false) ((H++[B0]++[B0]).set (H++[B0]:Heap).length (.cells [.int .i64 0,.str [],.nilslice])):=(m0.app [B0]).own (by simp) (by simp;omega)
 have hln:(H++[B0]:Heap).length=H.length+1:=by simp
 rw [hln] at hb2 hb02 m2 ⊢
 generalize (H++[B0]++[B0]).set (H.length+1) (.cells [.int .i64 0,.str [],.nilslice])=H2 at *
 clear hb1 hb0 m0 hln
 have hg2:=m2.get
 generalize skp s p=at0 at *
 refine z0B ?_
 refine wi_cutB (fun al' H'=>∃ op u nl l a nx' k' sy' bad tl,al'=(0,.ptr rid 0)::(2,.ptr H.length 0)::(3,.ptr (H.length+1) 0)::tl∧Mod H rid (RE s a nx' k' sy' bad) H'∧H'[H.length]? =some B0∧H'[H.length+1]? =some (.cells [.int .i64 op,.str u,lst nl l]) ∧
  ((bad=true∧xx=.bad)∨(bad=false∧nx'≤s.length∧xx=.ok (.mk op u nl l,nx')))) ?_ ?_
 ·rcases hD with ⟨rfl,hx,hn1⟩ | ⟨rfl,hx,hn1⟩ | ⟨rfl,hx,hn1⟩ | ⟨rfl,hx,hn1⟩ | ⟨rfl,hn1,hx⟩ | ⟨a1,a2,a3,a4,a5,hx⟩
  ·refine z0B ?_
   refine z0L rfl rfl ?_
   refine z0H rfl rfl hb2 rfl ?_
   refine z0B ?_
   exact ⟨0,sym2,true,[],_,_,_,_,_,_,rfl,m2.own (by omega) (by omega),z0A hb02 (by omega),z0C hb2,.inr ⟨rfl,hn1,hx⟩⟩
  ·refine z0B ?_
   refine z0P (v:=.int .i64 2) rfl rfl hb2 rfl (by simp) ?_
   refine z0B ?_
   exact ⟨2,[],true,[],_,_,_,_,_,_,rfl,m2.own (by omega) (by omega),z0A hb02 (by omega),z0C hb2,.inr ⟨rfl,hn1,hx⟩⟩
  ·refine z0B ?_
   refine z0P (v:=.int .i64 1) rfl rfl hb2 rfl (by simp) ?_
   refine z0B ?_
   exact ⟨1,[],true,[],_,_,_,_,_,_,rfl,m2.own (by omega) (by omega),z0A hb02 (by omega),z0C hb2,.inr ⟨rfl,hn1,hx⟩⟩
  ·refine z0B ?_
   refine z0P (v:=.int .i64 3) rfl rfl hb2 rfl (by simp) ?_
   refine z0B ?_
   exact ⟨3,[],true,[],_,_,_,_,_,_,rfl,m2.own (by omega) (by omega),z0A hb02 (by omega),z0C hb2,.inr ⟨rfl,hn1,hx⟩⟩
  ·have hne1:pe n .only s nx≠.oof:=fun e=>hne (by rw [←hx,e];rfl)
   refine z0B ?_
   refine z4Y rfl hg2 hn1 (by omega) fun v=>?_
   have m3:Mod H rid (advB s nx sym2 false) (H2.set rid (advB s nx sym2 false)):=m2.put
   have hb3:=z0A (y:=advB s nx sym2 false) hb2 (show H.length+1≠rid by omega)
   have hb03:=z0A (y:=advB s nx sym2 false) hb02 (show H.length≠rid by omega)
   generalize H2.set rid (advB s nx sym2 false)=H3 at *
   have hl3:=(List.getElem?_eq_some_iff.1 hb3).1
   refine z0B ?_
   refine z5F (args:=[.ptr rid 0]) (by rfl) (hk m3.get hn1 hs hne1) ?_
   intro op u nl l b H4 hst hm
   have hb4:=hm.old _ _ (by omega) hb3
   have hb04:=hm.old _ _ (by omega) hb03
   have m4:=m3.trans hm
   have h1:∃ a0 nx' k' sy' bad,b=RE s a0 nx' k' sy' bad∧(((bad||(k' != 93))=true∧xx=.bad)∨((bad||(k' != 93))=false∧nx'≤s.length∧xx=.ok (.mk op u nl l,nx'))):=by
    rcases hst with ⟨q,sym',he,rfl⟩ | ⟨he,a0,nx',k',sy',bad,rfl,hf⟩
    ·obtain ⟨c1,c2,c3,c4⟩:=pe_ok _ _ _ _ _ rfl he hn1
     rw [he,z0R] at hx
     simp only at hx
     obtain ⟨nx',k',sy',hopen,hO⟩:=adv_open sym' false c2
     refine ⟨_,_,_,_,_,hopen,?_⟩
     rcases hO.sg (c:=93) rfl with ⟨h1,h2,h3⟩ | ⟨h1,⟨h2,h3⟩ | h2⟩
     ·rw [h2,z0R] at hx
      simp only [if_true] at hx
      exact .inr ⟨by rw [bne];show (false || !(k'==93))=false;rw [show (k'==93)=true from h1];rfl,h3,hx.symm⟩
     ·rw [h2,z2M] at hx
      exact .inl ⟨by rw [bne];show (false || !(k'==93))=true;rw [show (k'==93)=false from h1];rfl,hx.symm⟩
     ·rw [h2,z0R] at hx
      simp only [Bool.false_eq_true,if_false] at hx
      exact .inl ⟨by rw [bne];show (false || !(k'==93))=true;rw [show (k'==93)=false from h1];rfl,hx.symm⟩
    ·rw [he,z2M] at hx
     refine ⟨_,_,_,_,_,rfl,.inl ⟨?_,hx.symm⟩⟩
     rcases hf with rfl | rfl
     ·rfl
     ·cases bad<;>rfl
   clear hst hx
   obtain ⟨a0,nx',k',sy',bad,rfl,h1⟩:=h1
   refine z0H rfl rfl hb4 z1C ?_
   have m5:Mod H rid (RE s a0 nx' k' sy' bad) (H4.set (H.length+1) (.cells [.int .i64 op,.str u,lst nl l])):=m4.own (by omega) (by omega)
   have hb5:=z0C (y:=.cells [.int .i64 op,.str u,lst nl l]) hb4
   have hb05:=z0A (y:=.cells [.int .i64 op,.str u,lst nl l]) hb04 (show H.length≠H.length+1 by omega)
   generalize H4.set (H.length+1) (.cells [.int .i64 op,.str u,lst nl l])=H5 at *
   have hg5:=m5.get
   refine z0B ?_
   cases bad
   ·refine z0B ?_
    refine z0P (v:=.bool (k' != 93)) rfl rfl hg5 rfl (by simp) ?_
    refine z0B ?_
    refine ⟨op,u,nl,l,a0,nx',k',sy',(k' != 93),_,rfl,m5.put,z0A hb05 (by omega),z0A hb5 (by omega),?_⟩
    simpa using h1
   ·refine z0B ?_
    refine z0P (v:=.bool true) rfl rfl hg5 rfl (by simp) ?_
    refine z0B ?_
    refine ⟨op,u,nl,l,a0,nx',k',sy',true,_,rfl,m5.put,z0A hb05 (by omega),z0A hb5 (by omega),?_⟩
    simpa using h1
  ·refine z0B ?_
   refine z0P (v:=.bool true) rfl rfl hg2 rfl (by simp) ?_
   refine z0B ?_
   exact ⟨0,[],true,[],at0,nx,k,sym2,true,_,rfl,m2.put,z0A hb02 (by omega),z0A hb2 (by omega),.inl ⟨rfl,hx⟩⟩
 clear hD hb2 hb02 m2 hg2 H2
 rintro _ H2 ⟨op,u,nl,l,a,nx',k',sy',bad,tl,rfl,m2,hb0,hb1,hJ⟩
 have hg2:=m2.get
 refine z0B ?_
 rcases hJ with ⟨rfl,hx⟩ | ⟨rfl,hn,hx⟩
 ·refine z0B ?_
  refine z0H rfl rfl hb0 z1C ?_
  refine z0B ?_
  exact z1G (z1E rfl (z0C hb0)) (z4C (z0X _ _ _ _).symm (.inr ⟨hx,_,_,_,_,_,rfl,.inl rfl⟩) (m2.own (Nat.le_refl _) (by omega)))
 ·refine z0B ?_
  refine z4Y rfl hg2 hn (by omega) fun v=>?_
  have m3:Mod H rid (advB s nx' sy' false) (H2.set rid (advB s nx' sy' false)):=m2.put
  have hb03:=z0A (y:=advB s nx' sy' false) hb0 (show H.length≠rid by omega)
  have hb13:=z0A (y:=advB s nx' sy' false) hb1 (show H.length+1≠rid by omega)
  generalize H2.set rid (advB s nx' sy' false)=H3 at *
  refine z0B ?_
  refine z0H rfl rfl hb03 z1C ?_
  refine z0B ?_
  exact z1G (z1E rfl (z0C hb03)) (z4C (z0X _ _ _ _).symm (StP.ok hx rfl) (m3.own (Nat.le_refl _) (by omega)))
end Go.Ab
