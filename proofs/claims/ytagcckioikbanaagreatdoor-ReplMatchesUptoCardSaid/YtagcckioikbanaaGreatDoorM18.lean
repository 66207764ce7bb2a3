/- Part 18 of the proof. -/
import Derived.Test.YtagcckioikbanaaGreatDoorM17
set_option linter.unusedVariables false
set_option linter.unusedSimpArgs false
namespace Go.Ab
variable {P:Program} {H:z0B} {al:AL} {Q Q':PL} {next:KL} {K:KL} {Qp:AL→AV→z0B→Prop} {os:List IOper}
theorem zHb (h:next al H):LX.then next Q .normal al H:=h
theorem zTH {i:Nat} (h:Q (.exit i) al H):LX.then next Q (.exit i) al H:=h
theorem zTJ (h:Q .ret al H):LX.then next Q .ret al H:=h
theorem zXR {id:Nat} (h:Q .normal al H):LX.inBlock id Q .normal al H:=h
theorem zXQ {id:Nat} (h:Q .ret al H):LX.inBlock id Q .ret al H:=h
theorem zXP {id:Nat} (h:Q .normal al H):LX.inBlock id Q (.exit id) al H:=by
 show if id=id then _ else _
 rw [if_pos rfl];exact h
theorem z0Y {rs:List RV} {R:z2U} {v:AV} (hv:z3c rs al H=some v) (h:R (.ret v) H):z3m rs R .ret al H:=⟨v,hv,h⟩
theorem fp_n {rs:List RV} {R:z2U} {v:AV} (hv:z3c rs al H=some v) (h:R (.ret v) H):z3m rs R .normal al H:=⟨v,hv,h⟩
theorem z7y {c:IC} (R:AL→z0B→Prop) (h:iwp P c (LX.then R Q) al H) (hR:∀ al' H',R al' H'→next al' H'):iwp P c (LX.then next Q) al H:=by
 have hmono:∀ x al' H',LX.then R Q x al' H'→LX.then next Q x al' H':=by
  intro x al' H' q
  cases x with
  | normal=>exact hR _ _ q
  | _=>exact q
 exact iwp_mono h hmono
where
 vexecL_mono {o:IOper} {r:Nat} {al:AL} {H:z0B} {K K':KL} {Qp Qp':AL→AV→z0B→Prop} (h:z3w P o r al H K Qp) (hk:∀ al H,K al H→K' al H)
   (hp:∀ al v H,Qp al v H→Qp' al v H):z3w P o r al H K' Qp':=by
  have bk:∀ r H,zBU o.dst al K Qp r H→zBU o.dst al K' Qp' r H:=by
   intro r H q
   cases r with
   | ret v=>exact hk _ _ q
   | panic v=>exact hp _ _ _ q
  unfold z3w at h ⊢
  split at h
  ·split at h
   ·exact hk _ _ h
   ·exact h.elim
  ·exact z0D.mono h bk
  ·split at h
   ·exact ⟨h.1,z0D.mono h.2 bk⟩
   ·exact h.elim
  ·split at h
   ·exact hp _ _ _ h
   ·exact h.elim
  ·split at h
   ·exact fun x hx=>hk _ _ (h x hx)
   ·exact h.elim
 vopL_mono {o:IOper} {r:Nat} {al:AL} {H:z0B} {K K':KL} {Qp Qp':AL→AV→z0B→Prop} (h:zKe P o r al H K Qp) (hk:∀ al H,K al H→K' al H)
   (hp:∀ al v H,Qp al v H→Qp' al v H):zKe P o r al H K' Qp':=by
  unfold zKe at h ⊢
  split at h
  ·exact vexecL_mono h hk hp
  ·split at h
   ·split at h
    ·rename_i e;simp only [e,if_true];exact vexecL_mono h hk hp
    ·rename_i e;simp only [e,if_false];exact hk _ _ h
   ·exact hk _ _ h
   ·exact h.elim
 vopsL_mono {K K':KL} {Qp Qp':AL→AV→z0B→Prop} (hk:∀ al H,K al H→K' al H) (hp:∀ al v H,Qp al v H→Qp' al v H):∀ (os:List IOper) (al:AL) (H:z0B),
   z6v P os al H K Qp→z6v P os al H K' Qp'
  | [],al,H,h=>hk _ _ h
  | o::os,al,H,h=>vopL_mono (o:=o) h (fun al' H' q=>vopsL_mono hk hp os al' H' q) hp
 vsL_mono {base:Nat} {ios:List IOper} {B:List (List Nat)} {K K':KL} {G:AV→Prop} (hk:∀ al H,K al H→K' al H):∀ (s:Sched) (S:List Rd) (al:AL) (H:z0B),
   vsL P base ios B K G s S al H→vsL P base ios B K' G s S al H
  | .done,S,al,H,h=>hk _ _ h
  | .stop,S,al,H,_=>trivial
  | .quiet i s,S,al,H,h=>by
   simp only [vsL] at h ⊢
   split at h
   ·split at h
    ·exact vsL_mono hk s _ _ _ h
    ·exact h.elim
   ·exact h.elim
  | .branch i s r,S,al,H,h=>by
   simp only [vsL] at h ⊢
   refine ⟨?_,?_⟩
   ·have h1:=h.1
    split at h1
    ·exact ⟨h1.1,h1.2.1,vopL_mono h1.2.2 (fun al' H' q=>⟨q.1,vsL_mono hk s S al' H' q.2⟩) (fun _ _ _ q=>q)⟩
    ·exact h1.elim
   ·have h2:=h.2
    cases r with
    | stop=>trivial
    | done=>exact vsL_mono hk .done S al H h2
    | quiet i' s'=>exact vsL_mono hk (.quiet i' s') S al H h2
    | branch i' s' r'=>exact vsL_mono hk (.branch i' s' r') S al H h2
 iwp_mono {Q Q':PL}:∀ {c:IC} {al:AL} {H:z0B},iwp P c Q al H→(∀ x al H,Q x al H→Q' x al H)→iwp P c Q' al H
  | .skip,al,H,h,hq=>hq _ _ _ h
  | .region ios keep,al,H,h,hq=>vopsL_mono (fun _ _ q=>hq _ _ _ q) (fun _ _ _ q=>hq _ _ _ q) ios al H h
  | .draw k ios B s keep,al,H,⟨G,h1,h2⟩,hq=>⟨G,fun v H g=>hq _ _ _ (h1 v H g),vsL_mono (fun _ _ q=>hq _ _ _ q) s [] al _ h2⟩
  | .seq a b,al,H,h,hq=>iwp_mono (c:=a) h fun x al' H' q=>by
    cases x with
    | normal=>exact iwp_mono (c:=b) q hq
    | exit id=>exact hq _ _ _ q
    | goto id=>exact hq _ _ _ q
    | ret=>exact hq _ _ _ q
    | panic v=>exact hq _ _ _ q
  | .cond c a b,al,H,h,hq=>by
    simp only [iwp] at h ⊢
    split at h
    ·exact iwp_mono h hq
    ·exact iwp_mono h hq
    ·exact h.elim
  | .block id c,al,H,h,hq=>iwp_mono (c:=c) h fun x al' H' q=>by
    cases x with
    | exit id' =>
     simp only [LX.inBlock] at q ⊢
     split at q
     ·rename_i e;rw [if_pos e];exact hq _ _ _ q
     ·rename_i e;rw [if_neg e];exact hq _ _ _ q
    | normal=>exact hq _ _ _ q
    | goto id=>exact hq _ _ _ q
    | ret=>exact hq _ _ _ q
    | panic v=>exact hq _ _ _ q
  | .loop keep c,al,H,⟨I,n₀,h0,h1⟩,hq=>⟨I,n₀,h0,fun n al' H' hi=>iwp_mono (c:=c) (h1 n al' H' hi) fun x al'' H'' q=>by
    cases x with
    | normal=>exact q
    | exit id=>exact hq _ _ _ q
    | goto id=>exact hq _ _ _ q
    | ret=>exact hq _ _ _ q
    | panic v=>exact hq _ _ _ q⟩
  | .exit id,al,H,h,hq=>hq _ _ _ h
  | .ret,al,H,h,hq=>hq _ _ _ h
theorem iwp_mono {Q Q':PL} {c:IC} {al:AL} {H:z0B} (h:iwp P c Q al H) (hq:∀ x al H,Q x al H→Q' x al H):iwp P c Q' al H:=z7y.iwp_mono h hq
structure WI (P:Program) (c:IC) (Q:PL) (al:AL) (H:z0B):Prop where
 h:iwp P c Q al H
structure VV (P:Program) (os:List IOper) (al:AL) (H:z0B) (K:KL) (Qp:AL→AV→z0B→Prop):Prop where
 h:z6v P os al H K Qp
theorem WI.mono {c:IC} {al:AL} {H:z0B} (h:WI P c Q al H) (hq:∀ x al H,Q x al H→Q' x al H):WI P c Q' al H:=⟨iwp_mono h.1 hq⟩
theorem VV.mono {K K':KL} {Qp Qp':AL→AV→z0B→Prop} {os:List IOper} {al:AL} {H:z0B} (h:VV P os al H K Qp) (hk:∀ al H,K al H→K' al H) (hp:∀ al v H,Qp al v H→Qp' al v H):VV P os al H K' Qp' :=
 ⟨z7y.vopsL_mono hk hp os al H h.1⟩
theorem z1e {a b:IC} (h:WI P a (LX.then (WI P b Q) Q) al H):WI P (.seq a b) Q al H:=⟨iwp_mono (c:=a) h.1 fun x al' H' q=>by
 cases x with
 | normal=>exact WI.h q
 | exit id=>exact q
 | goto id=>exact q
 | ret=>exact q
 | panic v=>exact q⟩
theorem z7J (h:Q .normal al H):WI P .skip Q al H:=⟨h⟩
theorem zFD (h:Q .ret al H):WI P .ret Q al H:=⟨h⟩
theorem zAf {id:Nat} (h:Q (.exit id) al H):WI P (.exit id) Q al H:=⟨h⟩
theorem z7z {id:Nat} {c:IC} (h:WI P c (LX.inBlock id Q) al H):WI P (.block id c) Q al H:=⟨h.1⟩
theorem z0c {ios:List IOper} {keep:List Nat} (h:VV P ios al H (fun al' H'=>Q .normal (z1d al' keep) H') (fun al' v H'=>Q (.panic v) al' H')):WI P (.region ios (some keep)) Q al H:=⟨h.1⟩
theorem z0Q {c:Arg} {a b:IC} (t:Bool) (h0:evL al c=.bool t) (h1:t=true→WI P a Q al H) (h2:t=false→WI P b Q al H):WI P (.cond c a b) Q al H:=by
 refine ⟨?_⟩
 show (match evL al c with | .bool true=>iwp P a Q al H | .bool false=>iwp P b Q al H | _=>False)
 rw [h0]
 cases t
 ·exact (h2 rfl).1
 ·exact (h1 rfl).1
theorem zFC {c:Arg} {a b:IC} (h0:evL al c=.bool true) (h1:WI P a Q al H):WI P (.cond c a b) Q al H:=z0Q true h0 (fun _=>h1) (fun e=>by cases e)
theorem zGX {c:Arg} {a b:IC} (h0:evL al c=.bool false) (h1:WI P b Q al H):WI P (.cond c a b) Q al H:=z0Q false h0 (fun e=>by cases e) (fun _=>h1)
theorem zKm {c:IC} {Q:PL} (R:AL→z0B→Prop) (h:WI P c (LX.then R Q) al H) (hR:∀ al' H',R al' H'→next al' H'):WI P c (LX.then next Q) al H :=
 ⟨z7y R h.1 hR⟩
end Go.Ab
namespace Go.Ab
variable {P:Program} {H G:z0B} {al:AL} {Q Q':PL} {next:KL} {K:KL} {Qp:AL→AV→z0B→Prop} {os:List IOper} {d:Nat} {x y z:Arg} {v:AV}
theorem zAC {ks:List Nat} {al':AL} (hk:z1d al ks=al') (h:Q .normal al' H):VV P [] al H (fun a H'=>Q .normal (z1d a ks) H') Qp:=by subst hk;exact ⟨h⟩
theorem z5u:z1d al []=[]:=rfl
theorem kp (v:AV) {k:Nat} {ks:List Nat} {l:AL} (h:z2V al k=v) (h2:z1d al ks=l):z1d al (k::ks)=(k,v)::l:=by subst h;subst h2;rfl
theorem z8X {op:IOp} {as_:List Arg} {H':z0B} (hv:z5a op (z0u al as_) H H.length=some (v,H')) (h:VV P os ((d,v)::al) H' K Qp) :
  VV P (⟨some d,.i op,as_,none,none⟩::os) al H K Qp:=by
 refine ⟨?_⟩
 show (match z5a op (z0u al as_) H H.length with | some (v,H')=>z6v P os (z9H al (some d) v) H' K Qp | none=>False)
 rw [hv];exact h.1
theorem zNu {op:IOp} {as_:List Arg} {H':z0B} (hv:z5a op (z0u al as_) H H.length=some (v,H')) (h:VV P os al H' K Qp) :
  VV P (⟨none,.i op,as_,none,none⟩::os) al H K Qp:=by
 refine ⟨?_⟩
 show (match z5a op (z0u al as_) H H.length with | some (v,H')=>z6v P os (z9H al none v) H' K Qp | none=>False)
 rw [hv];exact h.1
theorem z2S {op:DOp} {as_:List Arg} (hv:z1W op (z0u al as_)=some v) (h:VV P os ((d,v)::al) H K Qp) :
  VV P (⟨some d,.i (.d op),as_,none,none⟩::os) al H K Qp:=z8X (by simp only [z5a,hv]) h
theorem z7c (v:AV) (hv:evL al x=v) (h:VV P os ((d,v)::al) H K Qp) :
  VV P (⟨some d,.i (.d .move),[x],none,none⟩::os) al H K Qp:=z2S (op:=.move) (by show some (evL al x)=_;rw [hv]) h
theorem zKk {n:Int} (h1:-9223372036854775808≤n) (h2:n≤9223372036854775807):IntKind.wrap .i64 n=n:=by
 rw [IntKind.wrap_i64];omega
theorem zCj {a b:Int} (hx:evL al x=.int .i64 a) (hy:evL al y=.int .i64 b) (h1:-9223372036854775808≤a+b) (h2:a+b≤9223372036854775807)
  (h:VV P os ((d,.int .i64 (a+b))::al) H K Qp):VV P (⟨some d,.i (.d (.bin .add)),[x,y],none,none⟩::os) al H K Qp:=by
 refine z2S (v:=.int .i64 (a+b)) ?_ h
 simp only [z0u,hx,hy,z1W,zDV,if_true,z3q,zKk h1 h2]
theorem z5j {a b:Int} (hx:evL al x=.int .i64 a) (hy:evL al y=.int .i64 b) (h1:-9223372036854775808≤a-b) (h2:a-b≤9223372036854775807)
  (h:VV P os ((d,.int .i64 (a-b))::al) H K Qp):VV P (⟨some d,.i (.d (.bin .sub)),[x,y],none,none⟩::os) al H K Qp:=by
 refine z2S (v:=.int .i64 (a-b)) ?_ h
 simp only [z0u,hx,hy,z1W,zDV,if_true,z3q,zKk h1 h2]
theorem z2A {a b:Nat} (hx:evL al x=.int .i64 a) (hy:evL al y=.int .i64 b) (h2:a+b≤9223372036854775807)
  (h:VV P os ((d,.int .i64 (a+b:Nat))::al) H K Qp):VV P (⟨some d,.i (.d (.bin .add)),[x,y],none,none⟩::os) al H K Qp :=
 zCj hx hy (by omega) (by omega) (by rw [←Int.natCast_add];exact h)
theorem zBg {a:Nat} (hx:evL al x=.int .i64 a) (h2:a+1≤9223372036854775807)
  (h:VV P os ((d,.int .i64 (a+1:Nat))::al) H K Qp):VV P (⟨some d,.i (.d (.bin .add)),[x,.const (.int .i64 1)],none,none⟩::os) al H K Qp :=
 zCj hx rfl (by omega) (by omega) h
theorem zCh {a b:List UInt8} (hx:evL al x=.str a) (hy:evL al y=.str b) (h1:a.length+b.length≤9223372036854775807)
  (h:VV P os ((d,.str (a++b))::al) H K Qp):VV P (⟨some d,.i (.d (.bin .add)),[x,y],none,none⟩::os) al H K Qp:=by
 refine z2S (v:=.str (a++b)) ?_ h
 simp only [z0u,hx,hy,z1W,zDV,z6A]
 rw [if_pos (by omega)]
theorem z4e {s:List UInt8} {i:Nat} {c:UInt8} (hx:evL al x=.str s) (hy:evL al y=.int .i64 i) (hc:s[i]? =some c)
  (h:VV P os ((d,.int .u8 c.toNat)::al) H K Qp):VV P (⟨some d,.i (.d .idxStr),[x,y],none,none⟩::os) al H K Qp:=by
 refine z2S (v:=.int .u8 c.toNat) ?_ h
 simp only [z0u,hx,hy,z1W]
 rw [if_pos (by omega)]
 simp only [lDX,hc]
theorem zJX {sz i:Nat} {xs:List AV} {u:AV} (hx:evL al x=.list sz xs) (hy:evL al y=.int .i64 i) (hc:xs[i]? =some u)
  (h:VV P os ((d,.cptr u.cells)::al) H K Qp):VV P (⟨some d,.i (.d (.idxAddr sz)),[x,y],none,none⟩::os) al H K Qp:=by
 refine z2S (v:=.cptr u.cells) ?_ h
 have hlt:=(lAA.1 hc).1
 simp only [z0u,hx,hy,z1W]
 rw [if_pos ⟨trivial,by omega,by omega⟩]
 simp [hc]
theorem z3C {sz id off n i:Nat} (hx:evL al x=.sl id off n sz) (hy:evL al y=.int .i64 i) (hc:i<n)
  (h:VV P os ((d,.ptr id (off+i*sz))::al) H K Qp):VV P (⟨some d,.i (.d (.idxAddr sz)),[x,y],none,none⟩::os) al H K Qp:=by
 refine z2S (v:=.ptr id (off+i*sz)) ?_ h
 simp only [z0u,hx,hy,z1W]
 rw [if_pos ⟨trivial,by omega,by omega⟩]
 simp
theorem z2J {k:Option Nat} {cs:List AV} (hx:evL al x=.cptr cs) (hv:z3L k cs 0=some v)
  (h:VV P os ((d,v)::al) H K Qp):VV P (⟨some d,.i (.m (.load k)),[x],none,none⟩::os) al H K Qp:=by
 refine z8X (H':=H) (v:=v) ?_ h
 simp only [z0u,hx,z5a,z6m,z0h,hv]
theorem z2a {k:Option Nat} {id off:Nat} {cs:List AV} (hx:evL al x=.ptr id off) (hg:H[id]? =some (.cells cs)) (hv:z3L k cs off=some v)
  (h:VV P os ((d,v)::al) H K Qp):VV P (⟨some d,.i (.m (.load k)),[x],none,none⟩::os) al H K Qp:=by
 refine z8X (H':=H) (v:=v) ?_ h
 simp only [z0u,hx,z5a,z6m,z0h,hg,hv]
theorem z1R {n:Nat}:(H++G)[H.length+n]? =G[n]?:=by
 rw [lAJ (by omega)];congr 1;omega
theorem z0G {id:Nat} {b:Blk} (h:H[id]? =some b):(H++G)[id]? =some b:=by
 rw [lAN (lAA.1 h).1];exact h
theorem zAT {b:Blk}:put (H++G) (H++G).length b=H++(G++[b]):=by
 unfold put;rw [if_neg (by omega),lA2]
theorem zCn {n:Nat} {b:Blk}:(H++G).set (H.length+n) b=H++G.set n b:=by
 rw [lBC _ _ (by omega)];congr 2;omega
theorem z5E {k:Option Nat} {n off:Nat} {cs:List AV} (hx:evL al x=.ptr (H.length+n) off) (hg:G[n]? =some (.cells cs)) (hv:z3L k cs off=some v)
  (h:VV P os ((d,v)::al) (H++G) K Qp):VV P (⟨some d,.i (.m (.load k)),[x],none,none⟩::os) al (H++G) K Qp :=
 z2a hx (by rw [z1R];exact hg) hv h
theorem z5F {zs:List AV} {n:Nat} {G':z0B} (hn:G.length=n) (hG:G++[.cells zs]=G') (h:VV P os ((d,.ptr (H.length+n) 0)::al) (H++G') K Qp) :
  VV P (⟨some d,.i (.m (.alloc zs)),[],none,none⟩::os) al (H++G) K Qp:=by
 subst hn;subst hG
 refine z8X ?_ h
 show some (AV.ptr (H++G).length 0,put (H++G) (H++G).length (.cells zs))=_
 rw [zAT,lAH]
theorem zAD {n:Nat} {G':z0B} (v:AV) (hx:evL al x=v) (hs:v.shaped=true) (hn:G.length=n) (hG:G++[.cells v.cells]=G') (h:VV P os ((d,.ptr (H.length+n) 0)::al) (H++G') K Qp) :
  VV P (⟨some d,.i (.m .box),[x],none,none⟩::os) al (H++G) K Qp:=by
 subst hn;subst hG
 refine z8X ?_ h
 simp only [z5a,z6m,z0u,hx,hs,if_true]
 rw [zAT,lAH]
theorem z7Y {len sz:Nat} {zs:List AV} {ps:List (Nat × Nat)} {as_:List Arg} {n:Nat} {out:List AV} {G':z0B}
  (hf:z5M (if len*sz=0 then [] else z1J len zs) ps (z0u al as_)=some out) (hn:G.length=n) (hG:G++[.cells out]=G')
  (h:VV P os ((d,.sl (H.length+n) 0 len sz)::al) (H++G') K Qp) :
  VV P (⟨some d,.i (.m (.buildSlice len sz zs ps)),as_,none,none⟩::os) al (H++G) K Qp:=by
 subst hn;subst hG
 refine z8X ?_ h
 simp only [z5a,z6m,hf]
 rw [zAT,lAH]
theorem z3H {k n off:Nat} {cs cs':List AV} {G':z0B} (v:AV) (hx:evL al x=.ptr (H.length+n) off) (hy:evL al y=v) (hg:G[n]? =some (.cells cs))
  (hs:(v.shaped&&v.cells.length==k&&decide (off+k≤cs.length)&&v.cells.all AV.scalar)=true) (hc:z4m cs off v.cells=cs') (hG:G.set n (.cells cs')=G')
  (h:VV P os al (H++G') K Qp):VV P (⟨none,.i (.m (.store k)),[x,y],none,none⟩::os) al (H++G) K Qp:=by
 subst hc;subst hG
 refine zNu (v:=.top) (H':=H++G.set n (.cells (z4m cs off v.cells))) ?_ h
 simp only [z5a,z6m,z0u,hx,hy,zCF,z1R,hg,hs,if_true,zCn]
theorem z0k {k id off:Nat} {cs cs':List AV} {H':z0B} (v:AV) (hx:evL al x=.ptr id off) (hy:evL al y=v) (hg:H[id]? =some (.cells cs))
  (hs:(v.shaped&&v.cells.length==k&&decide (off+k≤cs.length)&&v.cells.all AV.scalar)=true) (hc:z4m cs off v.cells=cs') (hG:H.set id (.cells cs')=H')
  (h:VV P os al H' K Qp):VV P (⟨none,.i (.m (.store k)),[x,y],none,none⟩::os) al H K Qp:=by
 subst hc;subst hG
 refine zNu (v:=.top) (H':=H.set id (.cells (z4m cs off v.cells))) ?_ h
 simp only [z5a,z6m,z0u,hx,hy,zCF,hg,hs,if_true]
theorem z9S {sz bytes:Nat} {ys:List AV} (hx:evL al x=.nilslice) (hy:z1m sz H (evL al y)=some (0,ys)) (hs:ys.all AV.scalar=true)
  (h:VV P os ((d,.nilslice)::al) H K Qp) :
  VV P (⟨some d,.i (.m (.append sz bytes)),[x,y],none,none⟩::os) al H K Qp:=by
 refine z8X (H':=H) ?_ h
 have h0:z1m sz H .nilslice=some (0,[]):=rfl
 simp only [z5a,z6m,z0u,hx,z5z,hy,h0,hs,lCT]
 rw [if_pos (by simp),if_pos trivial]
theorem zQQ {sz bytes i off k m n:Nat} {cs ys:List AV} {G':z0B} (hx:evL al x=.sl (H.length+i) off k sz) (hg:G[i]? =some (.cells cs)) (hc:off+k*sz≤cs.length)
  (hy:z1m sz (H++G) (evL al y)=some (m,ys)) (hs:ys.all AV.scalar=true)
  (hb:(k+m)*bytes≤140737488355328) (hn:G.length=n) (hG:G.set i .dead++[.cells ((cs.drop off).take (k*sz)++ys)]=G')
  (h:VV P os ((d,.sl (H.length+n) 0 (k+m) sz)::al) (H++G') K Qp) :
  VV P (⟨some d,.i (.m (.append sz bytes)),[x,y],none,none⟩::os) al (H++G) K Qp:=by
 subst hn;subst hG
 refine z8X ?_ h
 have h0:z1m sz (H++G) (.sl (H.length+i) off k sz)=some (k,(cs.drop off).take (k*sz)):=by
  simp only [z1m,if_true,z1R,hg];rw [if_pos hc]
 simp only [z5a,z6m,z0u,hx,z5z,hy,h0,hs,lCT]
 rw [if_pos (by simpa using hb),zCn]
 have e:(H++G).length=(H++G.set i .dead).length:=by simp
 rw [e,zAT,←e,lAH]
theorem z0H {f:FuncId} {as_:List Arg} {args:List AV} (ha:z0u al as_=args) (hc:z0D P f args H (z1A H v)) (h:VV P os ((d,v)::al) H K Qp) :
  VV P (⟨some d,.callF f,as_,none,none⟩::os) al H K Qp:=by
 subst ha
 refine ⟨?_⟩
 show z0D P f (z0u al as_) H _
 refine hc.mono ?_
 rintro r H' ⟨rfl,rfl⟩
 exact h.1
theorem z0L {f:FuncId} {as_:List Arg} {args:List AV} {R:z2U} (ha:z0u al as_=args) (hc:z0D P f args H R)
  (h:∀ v H',R (.ret v) H'→VV P os ((d,v)::al) H' K Qp) (hp:∀ v H',R (.panic v) H'→Qp al v H') :
  VV P (⟨some d,.callF f,as_,none,none⟩::os) al H K Qp:=by
 subst ha
 refine ⟨?_⟩
 show z0D P f (z0u al as_) H _
 refine hc.mono ?_
 intro r H' q
 cases r with
 | ret v=>exact (h v H' q).1
 | panic v=>exact hp v H' q
theorem z7d {f:FuncId} {as_:List Arg} {fs cs vs:List AV} (ha:z0u al as_=.clo (.func f) fs cs::vs) (hb:hasBody P f=true) (hc:z0D P f (fs++vs++cs) H (z1A H v))
  (h:VV P os ((d,v)::al) H K Qp):VV P (⟨some d,.callV,as_,none,none⟩::os) al H K Qp:=by
 refine ⟨?_⟩
 show (match z0u al as_ with | .clo (.func f) fs cs::vs=>hasBody P f=true∧z0D P f (fs++vs++cs) H _ | _=>False)
 rw [ha]
 refine ⟨hb,hc.mono ?_⟩
 rintro r H' ⟨rfl,rfl⟩
 exact h.1
theorem z2n {f:FuncId} {as_:List Arg} {fs cs vs:List AV} {R:z2U} (ha:z0u al as_=.clo (.func f) fs cs::vs) (hb:hasBody P f=true) (hc:z0D P f (fs++vs++cs) H R)
  (h:∀ v H',R (.ret v) H'→VV P os ((d,v)::al) H' K Qp) (hp:∀ v H',R (.panic v) H'→Qp al v H'):VV P (⟨some d,.callV,as_,none,none⟩::os) al H K Qp:=by
 refine ⟨?_⟩
 show (match z0u al as_ with | .clo (.func f) fs cs::vs=>hasBody P f=true∧z0D P f (fs++vs++cs) H _ | _=>False)
 rw [ha]
 refine ⟨hb,hc.mono ?_⟩
 intro r H' q
 cases r with
 | ret v=>exact (h v H' q).1
 | panic v=>exact hp v H' q
theorem st_g {g:Nat} {want:Bool} {dst:Option Nat} {op:AOp} {as_:List Arg} (b:Bool) (hg:z2V al g=.bool b)
  (h1:b=want→VV P (⟨dst,op,as_,none,none⟩::os) al H K Qp) (h2:b≠want→VV P os (z9H al dst (.tuple [])) H K Qp) :
  VV P (⟨dst,op,as_,some (g,want),none⟩::os) al H K Qp:=by
 refine ⟨?_⟩
 show (match z2V al g with
  | .bool b=>if b=want then z3w P _ _ al H _ Qp else z6v P os (z9H al dst (.tuple [])) H K Qp
  | .tuple []=>_
  | _=>False)
 rw [hg]
 by_cases e:b=want
 ·simp only [if_pos e];exact (h1 e).1
 ·simp only [if_neg e];exact (h2 e).1
theorem z5h {g:Nat} {want:Bool} {dst:Option Nat} {op:AOp} {as_:List Arg} (hg:z2V al g=.bool want)
  (h1:VV P (⟨dst,op,as_,none,none⟩::os) al H K Qp):VV P (⟨dst,op,as_,some (g,want),none⟩::os) al H K Qp :=
 st_g want hg (fun _=>h1) (fun e=>absurd rfl e)
theorem zNt {g:Nat} {b want:Bool} {op:AOp} {as_:List Arg} (hg:z2V al g=.bool b) (hb:(b==want)=false)
  (h1:VV P os ((d,.tuple [])::al) H K Qp):VV P (⟨some d,op,as_,some (g,want),none⟩::os) al H K Qp :=
 st_g b hg (fun e=>by subst e;simp at hb) (fun _=>h1)
theorem zBZ {g:Nat} {want:Bool} {op:AOp} {as_:List Arg} (hg:z2V al g=.tuple [])
  (h1:VV P os ((d,.tuple [])::al) H K Qp):VV P (⟨some d,op,as_,some (g,want),none⟩::os) al H K Qp:=by
 refine ⟨?_⟩
 show (match z2V al g with
  | .bool b=>if b=want then z3w P _ _ al H _ Qp else z6v P os (z9H al (some d) (.tuple [])) H K Qp
  | .tuple []=>z6v P os (z9H al (some d) (.tuple [])) H K Qp
  | _=>False)
 rw [hg];exact h1.1
theorem z0F {c:IC} {keep:List Nat} (n:Nat) (I:Nat→AL→z0B→Prop) (h0:I 0 (z1d al keep) H)
  (step:∀ i al H,i≤n→I i al H→WI P c (LX.then (fun al' H'=>i<n∧I (i+1) (z1d al' keep) H') Q) al H):WI P (.loop (some keep) c) Q al H:=by
 refine ⟨⟨fun k al H=>∃ i,i≤n∧k=n-i∧I i al H,n,⟨0,by omega,by omega,h0⟩,?_⟩⟩
 rintro k al' H' ⟨i,hi,rfl,hI⟩
 refine iwp_mono (step i al' H' hi hI).1 ?_
 intro x al'' H'' q
 cases x with
 | normal=>exact ⟨n-(i+1),by have:=q.1;omega,i+1,by have:=q.1;omega,rfl,q.2⟩
 | _=>exact q
theorem zPd {c:IC} {keep:List Nat} (I:Nat→AL→z0B→Prop) (n:Nat) (h0:I n (z1d al keep) H)
  (step:∀ n al H,I n al H→WI P c (LX.then (fun al' H'=>∃ n',n'<n∧I n' (z1d al' keep) H') Q) al H):WI P (.loop (some keep) c) Q al H :=
 ⟨⟨I,n,h0,fun n al H hi=>(step n al H hi).1⟩⟩
section calls
variable {f:FuncId} {anns:List Ann} {F:IFunc} {R:z2U} (hnn:z6F P) (hm:P.follows .mixedOrders=true) (hF:Is P f anns F)
include hnn hm hF
theorem Is.c1 {a:AV} (hn:Nat.ble 1 F.n=true) (h:WI P F.body (z3m F.rs R) [(0,a)] (H++[])):z0D P f [a] H R:=by
 rw [lAK] at h;exact hF.call hnn hm hn h.1
theorem Is.c2 {a b:AV} (hn:Nat.ble 2 F.n=true) (h:WI P F.body (z3m F.rs R) [(0,a),(1,b)] (H++[])):z0D P f [a,b] H R:=by
 rw [lAK] at h;exact hF.call hnn hm hn h.1
theorem Is.c3 {a b c:AV} (hn:Nat.ble 3 F.n=true) (h:WI P F.body (z3m F.rs R) [(0,a),(1,b),(2,c)] (H++[])):z0D P f [a,b,c] H R:=by
 rw [lAK] at h;exact hF.call hnn hm hn h.1
theorem Is.c4 {a b c d:AV} (hn:Nat.ble 4 F.n=true) (h:WI P F.body (z3m F.rs R) [(0,a),(1,b),(2,c),(3,d)] (H++[])):z0D P f [a,b,c,d] H R:=by
 rw [lAK] at h;exact hF.call hnn hm hn h.1
end calls
end Go.Ab
