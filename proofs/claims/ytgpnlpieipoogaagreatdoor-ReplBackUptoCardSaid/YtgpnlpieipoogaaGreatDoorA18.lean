/- Part 18 of the proof. -/
import Derived.Test.YtgpnlpieipoogaaGreatDoorA17
set_option linter.unusedVariables false
set_option linter.unusedSimpArgs false
namespace Go.Ab
variable {P:Program} {H:Heap} {al:AL} {Q Q':PL} {next:KL} {K:KL} {Qp:AL→AV→Heap→Prop} {os:List IOper}
theorem nx_n (h:next al H):LX.then next Q .normal al H:=h
theorem nx_x {i:Nat} (h:Q (.exit i) al H):LX.then next Q (.exit i) al H:=h
theorem nx_r (h:Q .ret al H):LX.then next Q .ret al H:=h
theorem bk_n {id:Nat} (h:Q .normal al H):LX.inBlock id Q .normal al H:=h
theorem bk_r {id:Nat} (h:Q .ret al H):LX.inBlock id Q .ret al H:=h
theorem bk_x {id:Nat} (h:Q .normal al H):LX.inBlock id Q (.exit id) al H:=by
 show if id=id then _ else _
 rw [if_pos rfl];exact h
theorem z1G {rs:List RV} {R:CPost} {v:AV} (hv:resultL rs al H=some v) (h:R (.ret v) H):fpostL rs R .ret al H:=⟨v,hv,h⟩
theorem iw_cut {c:IC} (R:AL→Heap→Prop) (h:iwp P c (LX.then R Q) al H) (hR:∀ al' H',R al' H'→next al' H'):iwp P c (LX.then next Q) al H:=by
 have hmono:∀ x al' H',LX.then R Q x al' H'→LX.then next Q x al' H':=by
  intro x al' H' q
  cases x with
  | normal=>exact hR _ _ q
  | _=>exact q
 exact iwp_mono h hmono
where
 vexecL_mono {o:IOper} {r:Nat} {al:AL} {H:Heap} {K K':KL} {Qp Qp':AL→AV→Heap→Prop} (h:vexecL P o r al H K Qp) (hk:∀ al H,K al H→K' al H)
   (hp:∀ al v H,Qp al v H→Qp' al v H):vexecL P o r al H K' Qp':=by
  have bk:∀ r H,vbackL o.dst al K Qp r H→vbackL o.dst al K' Qp' r H:=by
   intro r H q
   cases r with
   | ret v=>exact hk _ _ q
   | panic v=>exact hp _ _ _ q
  unfold vexecL at h ⊢
  split at h
  ·split at h
   ·exact hk _ _ h
   ·exact h.elim
  ·exact ACall.mono h bk
  ·split at h
   ·exact ⟨h.1,ACall.mono h.2 bk⟩
   ·exact h.elim
  ·split at h
   ·exact hp _ _ _ h
   ·exact h.elim
  ·split at h
   ·exact fun x hx=>hk _ _ (h x hx)
   ·exact h.elim
 vopL_mono {o:IOper} {r:Nat} {al:AL} {H:Heap} {K K':KL} {Qp Qp':AL→AV→Heap→Prop} (h:vopL P o r al H K Qp) (hk:∀ al H,K al H→K' al H)
   (hp:∀ al v H,Qp al v H→Qp' al v H):vopL P o r al H K' Qp':=by
  unfold vopL at h ⊢
  split at h
  ·exact vexecL_mono h hk hp
  ·split at h
   ·split at h
    ·rename_i e;simp only [e,if_true];exact vexecL_mono h hk hp
    ·rename_i e;simp only [e,if_false];exact hk _ _ h
   ·exact hk _ _ h
   ·exact h.elim
 vopsL_mono {K K':KL} {Qp Qp':AL→AV→Heap→Prop} (hk:∀ al H,K al H→K' al H) (hp:∀ al v H,Qp al v H→Qp' al v H):∀ (os:List IOper) (al:AL) (H:Heap),
   vopsL P os al H K Qp→vopsL P os al H K' Qp'
  | [],al,H,h=>hk _ _ h
  | o::os,al,H,h=>vopL_mono (o:=o) h (fun al' H' q=>vopsL_mono hk hp os al' H' q) hp
 vsL_mono {base:Nat} {ios:List IOper} {B:List (List Nat)} {K K':KL} {G:AV→Prop} (hk:∀ al H,K al H→K' al H):∀ (s:Sched) (S:List Rd) (al:AL) (H:Heap),
   vsL P base ios B K G s S al H→vsL P base ios B K' G s S al H
  | .done,S,al,H,h=>hk _ _ h
  | .stop,S,al,H,_=>trivial
  | .quiet i s,S,al,H,h=>by
   simp only [vsL] at h ⊢
   split at h
   ·split at h
    ·exact vsL_mono hk s _ _ _ h
    ·exact h.elim
   ·exact h.elim
  | .branch i s r,S,al,H,h=>by
   simp only [vsL] at h ⊢
   refine ⟨?_,?_⟩
   ·have h1:=h.1
    split at h1
    ·exact ⟨h1.1,h1.2.1,vopL_mono h1.2.2 (fun al' H' q=>⟨q.1,vsL_mono hk s S al' H' q.2⟩) (fun _ _ _ q=>q)⟩
    ·exact h1.elim
   ·have h2:=h.2
    cases r with
    | stop=>trivial
    | done=>exact vsL_mono hk .done S al H h2
    | quiet i' s'=>exact vsL_mono hk (.quiet i' s') S al H h2
    | branch i' s' r'=>exact vsL_mono hk (.branch i' s' r') S al H h2
 iwp_mono {Q Q':PL}:∀ {c:IC} {al:AL} {H:Heap},iwp P c Q al H→(∀ x al H,Q x al H→Q' x al H)→iwp P c Q' al H
  | .skip,al,H,h,hq=>hq _ _ _ h
  | .region ios keep,al,H,h,hq=>vopsL_mono (fun _ _ q=>hq _ _ _ q) (fun _ _ _ q=>hq _ _ _ q) ios al H h
  | .draw k ios B s keep,al,H,⟨G,h1,h2⟩,hq=>⟨G,fun v H g=>hq _ _ _ (h1 v H g),vsL_mono (fun _ _ q=>hq _ _ _ q) s [] al _ h2⟩
  | .seq a b,al,H,h,hq=>iwp_mono (c:=a) h fun x al' H' q=>by
    cases x with
    | normal=>exact iwp_mono (c:=b) q hq
    | exit id=>exact hq _ _ _ q
    | goto id=>exact hq _ _ _ q
    | ret=>exact hq _ _ _ q
    | panic v=>exact hq _ _ _ q
  | .cond c a b,al,H,h,hq=>by
    simp only [iwp] at h ⊢
    split at h
    ·exact iwp_mono h hq
    ·exact iwp_mono h hq
    ·exact h.elim
  | .block id c,al,H,h,hq=>iwp_mono (c:=c) h fun x al' H' q=>by
    cases x with
    | exit id' =>
     simp only [LX.inBlock] at q ⊢
     split at q
     ·rename_i e;rw [if_pos e];exact hq _ _ _ q
     ·rename_i e;rw [if_neg e];exact hq _ _ _ q
    | normal=>exact hq _ _ _ q
    | goto id=>exact hq _ _ _ q
    | ret=>exact hq _ _ _ q
    | panic v=>exact hq _ _ _ q
  | .loop keep c,al,H,⟨I,n₀,h0,h1⟩,hq=>⟨I,n₀,h0,fun n al' H' hi=>iwp_mono (c:=c) (h1 n al' H' hi) fun x al'' H'' q=>by
    cases x with
    | normal=>exact q
    | exit id=>exact hq _ _ _ q
    | goto id=>exact hq _ _ _ q
    | ret=>exact hq _ _ _ q
    | panic v=>exact hq _ _ _ q⟩
  | .exit id,al,H,h,hq=>hq _ _ _ h
  | .ret,al,H,h,hq=>hq _ _ _ h
theorem iwp_mono {Q Q':PL} {c:IC} {al:AL} {H:Heap} (h:iwp P c Q al H) (hq:∀ x al H,Q x al H→Q' x al H):iwp P c Q' al H:=iw_cut.iwp_mono h hq
structure WI (P:Program) (c:IC) (Q:PL) (al:AL) (H:Heap):Prop where
 h:iwp P c Q al H
structure VV (P:Program) (os:List IOper) (al:AL) (H:Heap) (K:KL) (Qp:AL→AV→Heap→Prop):Prop where
 h:vopsL P os al H K Qp
theorem WI.mono {c:IC} {al:AL} {H:Heap} (h:WI P c Q al H) (hq:∀ x al H,Q x al H→Q' x al H):WI P c Q' al H:=⟨iwp_mono h.1 hq⟩
theorem VV.mono {K K':KL} {Qp Qp':AL→AV→Heap→Prop} {os:List IOper} {al:AL} {H:Heap} (h:VV P os al H K Qp) (hk:∀ al H,K al H→K' al H) (hp:∀ al v H,Qp al v H→Qp' al v H):VV P os al H K' Qp' :=
 ⟨iw_cut.vopsL_mono hk hp os al H h.1⟩
theorem z2V {a b:IC} (h:WI P a (LX.then (WI P b Q) Q) al H):WI P (.seq a b) Q al H:=⟨iwp_mono (c:=a) h.1 fun x al' H' q=>by
 cases x with
 | normal=>exact WI.h q
 | exit id=>exact q
 | goto id=>exact q
 | ret=>exact q
 | panic v=>exact q⟩
theorem z3V (h:Q .normal al H):WI P .skip Q al H:=⟨h⟩
theorem iw_ret (h:Q .ret al H):WI P .ret Q al H:=⟨h⟩
theorem z5N {id:Nat} (h:Q (.exit id) al H):WI P (.exit id) Q al H:=⟨h⟩
theorem z4J {id:Nat} {c:IC} (h:WI P c (LX.inBlock id Q) al H):WI P (.block id c) Q al H:=⟨h.1⟩
theorem z1N {ios:List IOper} {keep:List Nat} (h:VV P ios al H (fun al' H'=>Q .normal (keepL al' keep) H') (fun al' v H'=>Q (.panic v) al' H')):WI P (.region ios (some keep)) Q al H:=⟨h.1⟩
theorem z0T {c:Arg} {a b:IC} (t:Bool) (h0:evL al c=.bool t) (h1:t=true→WI P a Q al H) (h2:t=false→WI P b Q al H):WI P (.cond c a b) Q al H:=by
 refine ⟨?_⟩
 show (match evL al c with | .bool true=>iwp P a Q al H | .bool false=>iwp P b Q al H | _=>False)
 rw [h0]
 cases t
 ·exact (h2 rfl).1
 ·exact (h1 rfl).1
theorem z5Q {c:Arg} {a b:IC} (h0:evL al c=.bool true) (h1:WI P a Q al H):WI P (.cond c a b) Q al H:=z0T true h0 (fun _=>h1) (fun e=>by cases e)
theorem iw_no {c:Arg} {a b:IC} (h0:evL al c=.bool false) (h1:WI P b Q al H):WI P (.cond c a b) Q al H:=z0T false h0 (fun e=>by cases e) (fun _=>h1)
theorem wi_cut {c:IC} {Q:PL} (R:AL→Heap→Prop) (h:WI P c (LX.then R Q) al H) (hR:∀ al' H',R al' H'→next al' H'):WI P c (LX.then next Q) al H :=
 ⟨iw_cut R h.1 hR⟩
end Go.Ab
namespace Go.Ab
variable {P:Program} {H G:Heap} {al:AL} {Q Q':PL} {next:KL} {K:KL} {Qp:AL→AV→Heap→Prop} {os:List IOper} {d:Nat} {x y z:Arg} {v:AV}
theorem z3T {ks:List Nat} {al':AL} (hk:keepL al ks=al') (h:Q .normal al' H):VV P [] al H (fun a H'=>Q .normal (keepL a ks) H') Qp:=by subst hk;exact ⟨h⟩
theorem kp_nil:keepL al []=[]:=rfl
theorem kp (v:AV) {k:Nat} {ks:List Nat} {l:AL} (h:look al k=v) (h2:keepL al ks=l):keepL al (k::ks)=(k,v)::l:=by subst h;subst h2;rfl
theorem st_i {op:IOp} {as_:List Arg} {H':Heap} (hv:isem op (evsL al as_) H H.length=some (v,H')) (h:VV P os ((d,v)::al) H' K Qp) :
  VV P (⟨some d,.i op,as_,none,none⟩::os) al H K Qp:=by
 refine ⟨?_⟩
 show (match isem op (evsL al as_) H H.length with | some (v,H')=>vopsL P os (setL al (some d) v) H' K Qp | none=>False)
 rw [hv];exact h.1
theorem st_i0 {op:IOp} {as_:List Arg} {H':Heap} (hv:isem op (evsL al as_) H H.length=some (v,H')) (h:VV P os al H' K Qp) :
  VV P (⟨none,.i op,as_,none,none⟩::os) al H K Qp:=by
 refine ⟨?_⟩
 show (match isem op (evsL al as_) H H.length with | some (v,H')=>vopsL P os (setL al none v) H' K Qp | none=>False)
 rw [hv];exact h.1
theorem z2Z {op:DOp} {as_:List Arg} (hv:dsem op (evsL al as_)=some v) (h:VV P os ((d,v)::al) H K Qp) :
  VV P (⟨some d,.i (.d op),as_,none,none⟩::os) al H K Qp:=st_i (by simp only [isem,hv]) h
theorem z3A (v:AV) (hv:evL al x=v) (h:VV P os ((d,v)::al) H K Qp) :
  VV P (⟨some d,.i (.d .move),[x],none,none⟩::os) al H K Qp:=z2Z (op:=.move) (by show some (evL al x)=_;rw [hv]) h
theorem wrap64 {n:Int} (h1:-9223372036854775808≤n) (h2:n≤9223372036854775807):IntKind.wrap .i64 n=n:=by
 rw [IntKind.wrap_i64];omega
theorem st_addi {a b:Int} (hx:evL al x=.int .i64 a) (hy:evL al y=.int .i64 b) (h1:-9223372036854775808≤a+b) (h2:a+b≤9223372036854775807)
  (h:VV P os ((d,.int .i64 (a+b))::al) H K Qp):VV P (⟨some d,.i (.d (.bin .add)),[x,y],none,none⟩::os) al H K Qp:=by
 refine z2Z (v:=.int .i64 (a+b)) ?_ h
 simp only [evsL,hx,hy,dsem,dbin,if_true,dbinInt,wrap64 h1 h2]
theorem st_subi {a b:Int} (hx:evL al x=.int .i64 a) (hy:evL al y=.int .i64 b) (h1:-9223372036854775808≤a-b) (h2:a-b≤9223372036854775807)
  (h:VV P os ((d,.int .i64 (a-b))::al) H K Qp):VV P (⟨some d,.i (.d (.bin .sub)),[x,y],none,none⟩::os) al H K Qp:=by
 refine z2Z (v:=.int .i64 (a-b)) ?_ h
 simp only [evsL,hx,hy,dsem,dbin,if_true,dbinInt,wrap64 h1 h2]
theorem z2J {a b:Nat} (hx:evL al x=.int .i64 a) (hy:evL al y=.int .i64 b) (h2:a+b≤9223372036854775807)
  (h:VV P os ((d,.int .i64 (a+b:Nat))::al) H K Qp):VV P (⟨some d,.i (.d (.bin .add)),[x,y],none,none⟩::os) al H K Qp :=
 st_addi hx hy (by omega) (by omega) (by rw [←Int.natCast_add];exact h)
theorem z4R {a:Nat} (hx:evL al x=.int .i64 a) (h2:a+1≤9223372036854775807)
  (h:VV P os ((d,.int .i64 (a+1:Nat))::al) H K Qp):VV P (⟨some d,.i (.d (.bin .add)),[x,.const (.int .i64 1)],none,none⟩::os) al H K Qp :=
 st_addi hx rfl (by omega) (by omega) h
theorem z4Z {a b:List UInt8} (hx:evL al x=.str a) (hy:evL al y=.str b) (h1:a.length+b.length≤9223372036854775807)
  (h:VV P os ((d,.str (a++b))::al) H K Qp):VV P (⟨some d,.i (.d (.bin .add)),[x,y],none,none⟩::os) al H K Qp:=by
 refine z2Z (v:=.str (a++b)) ?_ h
 simp only [evsL,hx,hy,dsem,dbin,dbinStr]
 rw [if_pos (by omega)]
theorem z2N {s:List UInt8} {i:Nat} {c:UInt8} (hx:evL al x=.str s) (hy:evL al y=.int .i64 i) (hc:s[i]? =some c)
  (h:VV P os ((d,.int .u8 c.toNat)::al) H K Qp):VV P (⟨some d,.i (.d .idxStr),[x,y],none,none⟩::os) al H K Qp:=by
 refine z2Z (v:=.int .u8 c.toNat) ?_ h
 simp only [evsL,hx,hy,dsem]
 rw [if_pos (by omega)]
 simp only [Int.toNat_natCast,hc]
theorem st_idxList {sz i:Nat} {xs:List AV} {u:AV} (hx:evL al x=.list sz xs) (hy:evL al y=.int .i64 i) (hc:xs[i]? =some u)
  (h:VV P os ((d,.cptr u.cells)::al) H K Qp):VV P (⟨some d,.i (.d (.idxAddr sz)),[x,y],none,none⟩::os) al H K Qp:=by
 refine z2Z (v:=.cptr u.cells) ?_ h
 have hlt:=(List.getElem?_eq_some_iff.1 hc).1
 simp only [evsL,hx,hy,dsem]
 rw [if_pos ⟨trivial,by omega,by omega⟩]
 simp [hc]
theorem z2E {sz id off n i:Nat} (hx:evL al x=.sl id off n sz) (hy:evL al y=.int .i64 i) (hc:i<n)
  (h:VV P os ((d,.ptr id (off+i*sz))::al) H K Qp):VV P (⟨some d,.i (.d (.idxAddr sz)),[x,y],none,none⟩::os) al H K Qp:=by
 refine z2Z (v:=.ptr id (off+i*sz)) ?_ h
 simp only [evsL,hx,hy,dsem]
 rw [if_pos ⟨trivial,by omega,by omega⟩]
 simp
theorem z2X {k:Option Nat} {cs:List AV} (hx:evL al x=.cptr cs) (hv:dpart k cs 0=some v)
  (h:VV P os ((d,v)::al) H K Qp):VV P (⟨some d,.i (.m (.load k)),[x],none,none⟩::os) al H K Qp:=by
 refine st_i (H':=H) (v:=v) ?_ h
 simp only [evsL,hx,isem,msem,rload,hv]
theorem z1T {k:Option Nat} {id off:Nat} {cs:List AV} (hx:evL al x=.ptr id off) (hg:H[id]? =some (.cells cs)) (hv:dpart k cs off=some v)
  (h:VV P os ((d,v)::al) H K Qp):VV P (⟨some d,.i (.m (.load k)),[x],none,none⟩::os) al H K Qp:=by
 refine st_i (H':=H) (v:=v) ?_ h
 simp only [evsL,hx,isem,msem,rload,hg,hv]
theorem hp_new {n:Nat}:(H++G)[H.length+n]? =G[n]?:=by
 rw [List.getElem?_append_right (by omega)];congr 1;omega
theorem z0H {id:Nat} {b:Blk} (h:H[id]? =some b):(H++G)[id]? =some b:=by
 rw [List.getElem?_append_left (List.getElem?_eq_some_iff.1 h).1];exact h
theorem put_app {b:Blk}:put (H++G) (H++G).length b=H++(G++[b]):=by
 unfold put;rw [if_neg (by omega),List.append_assoc]
theorem set_new {n:Nat} {b:Blk}:(H++G).set (H.length+n) b=H++G.set n b:=by
 rw [List.set_append_right _ _ (by omega)];congr 2;omega
theorem z2W {k:Option Nat} {n off:Nat} {cs:List AV} (hx:evL al x=.ptr (H.length+n) off) (hg:G[n]? =some (.cells cs)) (hv:dpart k cs off=some v)
  (h:VV P os ((d,v)::al) (H++G) K Qp):VV P (⟨some d,.i (.m (.load k)),[x],none,none⟩::os) al (H++G) K Qp :=
 z1T hx (by rw [hp_new];exact hg) hv h
theorem z1Z {zs:List AV} {n:Nat} {G':Heap} (hn:G.length=n) (hG:G++[.cells zs]=G') (h:VV P os ((d,.ptr (H.length+n) 0)::al) (H++G') K Qp) :
  VV P (⟨some d,.i (.m (.alloc zs)),[],none,none⟩::os) al (H++G) K Qp:=by
 subst hn;subst hG
 refine st_i ?_ h
 show some (AV.ptr (H++G).length 0,put (H++G) (H++G).length (.cells zs))=_
 rw [put_app,List.length_append]
theorem z4C {n:Nat} {G':Heap} (v:AV) (hx:evL al x=v) (hs:v.shaped=true) (hn:G.length=n) (hG:G++[.cells v.cells]=G') (h:VV P os ((d,.ptr (H.length+n) 0)::al) (H++G') K Qp) :
  VV P (⟨some d,.i (.m .box),[x],none,none⟩::os) al (H++G) K Qp:=by
 subst hn;subst hG
 refine st_i ?_ h
 simp only [isem,msem,evsL,hx,hs,if_true]
 rw [put_app,List.length_append]
theorem z3J {len sz:Nat} {zs:List AV} {ps:List (Nat × Nat)} {as_:List Arg} {n:Nat} {out:List AV} {G':Heap}
  (hf:fillA (if len*sz=0 then [] else copies len zs) ps (evsL al as_)=some out) (hn:G.length=n) (hG:G++[.cells out]=G')
  (h:VV P os ((d,.sl (H.length+n) 0 len sz)::al) (H++G') K Qp) :
  VV P (⟨some d,.i (.m (.buildSlice len sz zs ps)),as_,none,none⟩::os) al (H++G) K Qp:=by
 subst hn;subst hG
 refine st_i ?_ h
 simp only [isem,msem,hf]
 rw [put_app,List.length_append]
theorem z1X {k n off:Nat} {cs cs':List AV} {G':Heap} (v:AV) (hx:evL al x=.ptr (H.length+n) off) (hy:evL al y=v) (hg:G[n]? =some (.cells cs))
  (hs:(v.shaped&&v.cells.length==k&&decide (off+k≤cs.length)&&v.cells.all AV.scalar)=true) (hc:setAt cs off v.cells=cs') (hG:G.set n (.cells cs')=G')
  (h:VV P os al (H++G') K Qp):VV P (⟨none,.i (.m (.store k)),[x,y],none,none⟩::os) al (H++G) K Qp:=by
 subst hc;subst hG
 refine st_i0 (v:=.top) (H':=H++G.set n (.cells (setAt cs off v.cells))) ?_ h
 simp only [isem,msem,evsL,hx,hy,estore,hp_new,hg,hs,if_true,set_new]
theorem z0X {k id off:Nat} {cs cs':List AV} {H':Heap} (v:AV) (hx:evL al x=.ptr id off) (hy:evL al y=v) (hg:H[id]? =some (.cells cs))
  (hs:(v.shaped&&v.cells.length==k&&decide (off+k≤cs.length)&&v.cells.all AV.scalar)=true) (hc:setAt cs off v.cells=cs') (hG:H.set id (.cells cs')=H')
  (h:VV P os al H' K Qp):VV P (⟨none,.i (.m (.store k)),[x,y],none,none⟩::os) al H K Qp:=by
 subst hc;subst hG
 refine st_i0 (v:=.top) (H':=H.set id (.cells (setAt cs off v.cells))) ?_ h
 simp only [isem,msem,evsL,hx,hy,estore,hg,hs,if_true]
theorem st_app00 {sz bytes:Nat} {ys:List AV} (hx:evL al x=.nilslice) (hy:srcOf sz H (evL al y)=some (0,ys)) (hs:ys.all AV.scalar=true)
  (h:VV P os ((d,.nilslice)::al) H K Qp) :
  VV P (⟨some d,.i (.m (.append sz bytes)),[x,y],none,none⟩::os) al H K Qp:=by
 refine st_i (H':=H) ?_ h
 have h0:srcOf sz H .nilslice=some (0,[]):=rfl
 simp only [isem,msem,evsL,hx,eappend,hy,h0,hs,Bool.true_and]
 rw [if_pos (by simp),if_pos trivial]
theorem z0F {f:FuncId} {as_:List Arg} {args:List AV} (ha:evsL al as_=args) (hc:ACall P f args H (Just H v)) (h:VV P os ((d,v)::al) H K Qp) :
  VV P (⟨some d,.callF f,as_,none,none⟩::os) al H K Qp:=by
 subst ha
 refine ⟨?_⟩
 show ACall P f (evsL al as_) H _
 refine hc.mono ?_
 rintro r H' ⟨rfl,rfl⟩
 exact h.1
theorem z1W {f:FuncId} {as_:List Arg} {args:List AV} {R:CPost} (ha:evsL al as_=args) (hc:ACall P f args H R)
  (h:∀ v H',R (.ret v) H'→VV P os ((d,v)::al) H' K Qp) (hp:∀ v H',R (.panic v) H'→Qp al v H') :
  VV P (⟨some d,.callF f,as_,none,none⟩::os) al H K Qp:=by
 subst ha
 refine ⟨?_⟩
 show ACall P f (evsL al as_) H _
 refine hc.mono ?_
 intro r H' q
 cases r with
 | ret v=>exact (h v H' q).1
 | panic v=>exact hp v H' q
theorem st_callv {f:FuncId} {as_:List Arg} {fs cs vs:List AV} (ha:evsL al as_=.clo (.func f) fs cs::vs) (hb:hasBody P f=true) (hc:ACall P f (fs++vs++cs) H (Just H v))
  (h:VV P os ((d,v)::al) H K Qp):VV P (⟨some d,.callV,as_,none,none⟩::os) al H K Qp:=by
 refine ⟨?_⟩
 show (match evsL al as_ with | .clo (.func f) fs cs::vs=>hasBody P f=true∧ACall P f (fs++vs++cs) H _ | _=>False)
 rw [ha]
 refine ⟨hb,hc.mono ?_⟩
 rintro r H' ⟨rfl,rfl⟩
 exact h.1
theorem st_callvq {f:FuncId} {as_:List Arg} {fs cs vs:List AV} {R:CPost} (ha:evsL al as_=.clo (.func f) fs cs::vs) (hb:hasBody P f=true) (hc:ACall P f (fs++vs++cs) H R)
  (h:∀ v H',R (.ret v) H'→VV P os ((d,v)::al) H' K Qp) (hp:∀ v H',R (.panic v) H'→Qp al v H'):VV P (⟨some d,.callV,as_,none,none⟩::os) al H K Qp:=by
 refine ⟨?_⟩
 show (match evsL al as_ with | .clo (.func f) fs cs::vs=>hasBody P f=true∧ACall P f (fs++vs++cs) H _ | _=>False)
 rw [ha]
 refine ⟨hb,hc.mono ?_⟩
 intro r H' q
 cases r with
 | ret v=>exact (h v H' q).1
 | panic v=>exact hp v H' q
theorem z4G {t:TypeId} {u:AV} {dst:Option Nat} (hx:evL al x=.iface t u) (h:Qp al (.iface t u) H):VV P (⟨dst,.panic,[x],none,none⟩::os) al H K Qp:=by
 refine ⟨?_⟩
 show (match evsL al [x] with | [.iface t v]=>Qp al (.iface t v) H | _=>False)
 simp only [evsL,hx];exact h
theorem st_g {g:Nat} {want:Bool} {dst:Option Nat} {op:AOp} {as_:List Arg} (b:Bool) (hg:look al g=.bool b)
  (h1:b=want→VV P (⟨dst,op,as_,none,none⟩::os) al H K Qp) (h2:b≠want→VV P os (setL al dst (.tuple [])) H K Qp) :
  VV P (⟨dst,op,as_,some (g,want),none⟩::os) al H K Qp:=by
 refine ⟨?_⟩
 show (match look al g with
  | .bool b=>if b=want then vexecL P _ _ al H _ Qp else vopsL P os (setL al dst (.tuple [])) H K Qp
  | .tuple []=>_
  | _=>False)
 rw [hg]
 by_cases e:b=want
 ·simp only [if_pos e];exact (h1 e).1
 ·simp only [if_neg e];exact (h2 e).1
theorem st_yes {g:Nat} {want:Bool} {dst:Option Nat} {op:AOp} {as_:List Arg} (hg:look al g=.bool want)
  (h1:VV P (⟨dst,op,as_,none,none⟩::os) al H K Qp):VV P (⟨dst,op,as_,some (g,want),none⟩::os) al H K Qp :=
 st_g want hg (fun _=>h1) (fun e=>absurd rfl e)
theorem st_no {g:Nat} {b want:Bool} {op:AOp} {as_:List Arg} (hg:look al g=.bool b) (hb:(b==want)=false)
  (h1:VV P os ((d,.tuple [])::al) H K Qp):VV P (⟨some d,op,as_,some (g,want),none⟩::os) al H K Qp :=
 st_g b hg (fun e=>by subst e;simp at hb) (fun _=>h1)
theorem st_no' {g:Nat} {want:Bool} {op:AOp} {as_:List Arg} (hg:look al g=.tuple [])
  (h1:VV P os ((d,.tuple [])::al) H K Qp):VV P (⟨some d,op,as_,some (g,want),none⟩::os) al H K Qp:=by
 refine ⟨?_⟩
 show (match look al g with
  | .bool b=>if b=want then vexecL P _ _ al H _ Qp else vopsL P os (setL al (some d) (.tuple [])) H K Qp
  | .tuple []=>vopsL P os (setL al (some d) (.tuple [])) H K Qp
  | _=>False)
 rw [hg];exact h1.1
theorem z1B {c:IC} {keep:List Nat} (n:Nat) (I:Nat→AL→Heap→Prop) (h0:I 0 (keepL al keep) H)
  (step:∀ i al H,i≤n→I i al H→WI P c (LX.then (fun al' H'=>i<n∧I (i+1) (keepL al' keep) H') Q) al H):WI P (.loop (some keep) c) Q al H:=by
 refine ⟨⟨fun k al H=>∃ i,i≤n∧k=n-i∧I i al H,n,⟨0,by omega,by omega,h0⟩,?_⟩⟩
 rintro k al' H' ⟨i,hi,rfl,hI⟩
 refine iwp_mono (step i al' H' hi hI).1 ?_
 intro x al'' H'' q
 cases x with
 | normal=>exact ⟨n-(i+1),by have:=q.1;omega,i+1,by have:=q.1;omega,rfl,q.2⟩
 | _=>exact q
theorem z2G {c:IC} {keep:List Nat} (I:Nat→AL→Heap→Prop) (n:Nat) (h0:I n (keepL al keep) H)
  (step:∀ n al H,I n al H→WI P c (LX.then (fun al' H'=>∃ n',n'<n∧I n' (keepL al' keep) H') Q) al H):WI P (.loop (some keep) c) Q al H :=
 ⟨⟨I,n,h0,fun n al H hi=>(step n al H hi).1⟩⟩
section calls
variable {f:FuncId} {anns:List Ann} {F:IFunc} {R:CPost} (hnn:NoNum P) (hm:P.follows .mixedOrders=true) (hF:Is P f anns F)
include hnn hm hF
theorem Is.c1 {a:AV} (hn:Nat.ble 1 F.n=true) (h:WI P F.body (fpostL F.rs R) [(0,a)] (H++[])):ACall P f [a] H R:=by
 rw [List.append_nil] at h;exact hF.call hnn hm hn h.1
theorem Is.c2 {a b:AV} (hn:Nat.ble 2 F.n=true) (h:WI P F.body (fpostL F.rs R) [(0,a),(1,b)] (H++[])):ACall P f [a,b] H R:=by
 rw [List.append_nil] at h;exact hF.call hnn hm hn h.1
theorem Is.c3 {a b c:AV} (hn:Nat.ble 3 F.n=true) (h:WI P F.body (fpostL F.rs R) [(0,a),(1,b),(2,c)] (H++[])):ACall P f [a,b,c] H R:=by
 rw [List.append_nil] at h;exact hF.call hnn hm hn h.1
theorem Is.c4 {a b c d:AV} (hn:Nat.ble 4 F.n=true) (h:WI P F.body (fpostL F.rs R) [(0,a),(1,b),(2,c),(3,d)] (H++[])):ACall P f [a,b,c,d] H R:=by
 rw [List.append_nil] at h;exact hF.call hnn hm hn h.1
end calls
end Go.Ab
