/- Part 25 of the proof. -/
import Derived.Test.YtagcckioikbanaaGreatDoorM22
import Derived.Test.YtagcckioikbanaaGreatDoorM24
set_option linter.unusedVariables false
set_option linter.unusedSimpArgs false
namespace Go.Ab
structure VX (P:Program) (O:AV→Prop) (base:Nat) (ios:List IOper) (B:List (List Nat)) (K:KL) (G:AV→Prop) (s:Sched) (al:AL) (H:z0B):Prop where
 h:∀ S:List Rd,(∀ r∈S,O r.x∧z0h r.n r.x H=some r.v)→vsL P base ios B K G s S al H
section vx
variable {P:Program} {H:z0B} {al:AL} {Q:PL} {K:KL} {O:AV→Prop} {base:Nat} {ios:List IOper} {B:List (List Nat)} {Gp:AV→Prop} {s:Sched}
theorem vx_q {i:Nat} {o:IOper} (ho:ios[i]? =some o) (hq:z0v o=true) (hr:∀ v n x,z0f o al H=some (v,some (n,x))→O x)
  (h:VV P [o] al H (fun al' _=>VX P O base ios B K Gp s al' H) (fun _ _ _=>False)):VX P O base ios B K Gp (.quiet i s) al H:=by
 refine ⟨fun S hS=>?_⟩
 obtain ⟨v,rd,h1,h2⟩:=z3e (K:=fun al' _=>VX P O base ios B K Gp s al' H) hq h.1
 simp only [vsL,ho,h1]
 refine h2.1 _ fun r hr'=>?_
 cases rd with
 | none=>exact hS r hr'
 | some q =>
  obtain ⟨n,u⟩:=q
  rcases lAT.1 hr' with rfl | hr'
  ·exact ⟨hr _ _ _ h1,z7m h1⟩
  ·exact hS r hr'
theorem zWz {d:Option Nat} {op:DOp} {as_:List Arg} {r:Option Nat}:∀ v n x,z0f ⟨d,.i (.d op),as_,none,r⟩ al H=some (v,some (n,x))→O x:=by
 intro v n x h
 simp only [z0f,z1p] at h
 split at h
 ·injection h with h;injection h with _ h;cases h
 ·cases h
theorem zWy {d:Option Nat} {k:Option Nat} {a:Arg} {r:Option Nat} (hok:O (evL al a)):∀ v n x,z0f ⟨d,.i (.m (.load k)),[a],none,r⟩ al H=some (v,some (n,x))→O x:=by
 intro v n x h
 simp only [z0f,z1p,z0u] at h
 split at h
 ·injection h with h;injection h with _ h;injection h with h;injection h with _ h;subst h;exact hok
 ·cases h
theorem zKc {i:Nat} {o:IOper} (ho:ios[i]? =some o) (hr:o.res=none) (hb:base≤H.length)
  (h:VV P [o] al H (fun al' H'=>(∀ n x v,O x→z0h n x H=some v→z0h n x H'=some v)∧VX P O base ios B K Gp s al' H') (fun _ v _=>Gp v)) :
  VX P O base ios B K Gp (.branch i s .stop) al H:=by
 refine ⟨fun S hS=>?_⟩
 have hrr:rOf base o H=H.length:=by simp [rOf,hr]
 simp only [vsL,ho,hrr]
 refine ⟨⟨?_,lCN hb,?_⟩,trivial⟩
 ·simp [z9J]
 ·refine z7y.vopL_mono h.1 ?_ (fun _ _ _ q=>q)
  rintro al' H' ⟨hpres,q⟩
  have hS':∀ r∈S,O r.x∧z0h r.n r.x H'=some r.v:=fun r hr=>⟨(hS r hr).1,hpres _ _ _ (hS r hr).1 (hS r hr).2⟩
  refine ⟨?_,q.1 S hS'⟩
  unfold z5s
  rw [ho]
  simp only
  split
  ·trivial
  ·exact fun r hr _=>(hS' r hr).2
theorem zKr {ks:List Nat} {al':AL} (hk:z1d al ks=al') (h:Q .normal al' H):VX P O base ios B (fun a h=>Q .normal (z1d a ks) h) Gp .done al H:=⟨fun _ _=>by subst hk;exact h⟩
theorem z1f {ks:List Nat} (O:AV→Prop) (h:VX P O H.length ios B (fun a h=>Q .normal (z1d a ks) h) (fun _=>False) s al H):WI P (.draw 0 ios B s (some ks)) Q al H:=by
 refine ⟨⟨fun _=>False,fun _ _ f=>f.elim,?_⟩⟩
 have:z1Q H 0=H:=by simp [z1Q]
 rw [this]
 exact h.1 [] (by simp)
theorem z6x {H':z0B} {Qp:AL→AV→z0B→Prop} (h:VX P O base ios B K Gp s al H'):VV P [] al H (fun a _=>VX P O base ios B K Gp s a H') Qp:=⟨h⟩
theorem z2K {H':z0B} {Qp:AL→AV→z0B→Prop} (hp:∀ n x v,O x→z0h n x H'=some v→z0h n x H=some v) (h:VX P O base ios B K Gp s al H) :
  VV P [] al H (fun a h=>(∀ n x v,O x→z0h n x H'=some v→z0h n x h=some v)∧VX P O base ios B K Gp s a h) Qp:=⟨⟨hp,h⟩⟩
end vx
def z2h (l:List Nat):AV→Prop
 | .ptr j _=>j∉l
 | _=>True
theorem zLa {H:z0B} {l:List Nat} {id:Nat} {b:Blk} (hid:id∈l):∀ n x v,z2h l x→z0h n x H=some v→z0h n x (H.set id b)=some v:=by
 intro n x v ho hl
 cases x with
 | ptr j off =>
  have hj:id≠j:=fun e=>ho (e ▸ hid)
  simp only [z0h,lA7,if_neg hj] at hl ⊢
  exact hl
 | _=>exact hl
theorem z0D.forgetE {P:Program} {H:z0B} {f:FuncId} {args:List AV} {S:AV→Prop} (hS:∀ v,S v→z0N v) (h:z0D P f args H (fun r H'=>∃ v,r=.ret v∧S v∧∃ G,H'=H++G)) :
  z0D P f args H (fun r H'=>∃ v,r=.ret v∧S v∧H'=H):=by
 intro φ σ cargs w hr hc
 refine (h φ σ cargs w hr hc).mono ?_
 rintro e w' ⟨φ',σ',r,H',s,kp,rr,v,rfl,hv,G,rfl⟩
 obtain ⟨c,rfl,hvc⟩:=rr
 obtain ⟨n,hn⟩:=hS v hv
 exact ⟨_,σ',.ret v,H,z6w hr s,.refl _,⟨c,rfl,z6R hn hvc⟩,v,rfl,hv,rfl⟩
section vx2
variable {P:Program} {H:z0B} {al:AL} {Q:PL} {K:KL} {O:AV→Prop} {base:Nat} {ios:List IOper} {B:List (List Nat)} {Gp:AV→Prop} {s r:Sched}
theorem zRy {d:Option Nat} {op:DOp} {as_:List Arg} {g:Nat × Bool} {r:Option Nat}:∀ v n x,z0f ⟨d,.i (.d op),as_,some g,r⟩ al H=some (v,some (n,x))→O x:=by
 intro v n x h
 unfold z0f at h
 simp only at h
 split at h
 ·split at h
  ·exact zWz (d:=d) (op:=op) (as_:=as_) (r:=r) (al:=al) (H:=H) v n x h
  ·injection h with h;injection h with _ h;cases h
 ·injection h with h;injection h with _ h;cases h
 ·cases h
theorem zRx {d:Option Nat} {k:Option Nat} {a:Arg} {g:Nat × Bool} {r:Option Nat} (hok:O (evL al a)):∀ v n x,z0f ⟨d,.i (.m (.load k)),[a],some g,r⟩ al H=some (v,some (n,x))→O x:=by
 intro v n x h
 unfold z0f at h
 simp only at h
 split at h
 ·split at h
  ·exact zWy (d:=d) (k:=k) (a:=a) (r:=r) (al:=al) (H:=H) hok v n x h
  ·injection h with h;injection h with _ h;cases h
 ·injection h with h;injection h with _ h;cases h
 ·cases h
theorem z9f {i:Nat} (h:VX P O base ios B K Gp (.branch i s .stop) al H) (h2:VX P O base ios B K Gp r al H):VX P O base ios B K Gp (.branch i s r) al H:=by
 refine ⟨fun S hS=>⟨(h.1 S hS).1,?_⟩⟩
 cases r with
 | stop=>trivial
 | done=>exact h2.1 S hS
 | quiet=>exact h2.1 S hS
 | branch=>exact h2.1 S hS
theorem zEg {a:Arg} {v:AV} (hv:evL al a=v) (h:O v):O (evL al a):=by rw [hv];exact h
theorem z4C {j off m:Nat} (h:j≠m):z2h [m] (.ptr j off):=by
 show j∉[m]
 simp only [lA1];exact h
theorem z5n {H':z0B} {m:Nat} {b:Blk} (h:Mod H m b H'):∀ n x v,z2h [m] x→z0h n x H=some v→z0h n x H'=some v:=by
 intro n x v ho hl
 cases x with
 | ptr j off =>
  have hj:j≠m:=by
   have:j∉[m]:=ho
   simpa using this
  simp only [z0h] at hl ⊢
  cases hg:H[j]? with
  | none=>rw [hg] at hl;simp at hl
  | some c =>
   rw [hg] at hl
   rw [h.old j c hj hg]
   exact hl
 | _=>exact hl
theorem z5B {i d m:Nat} {f:FuncId} {as_:List Arg} {args:List AV} {R:z2U} (ho:ios[i]? =some ⟨some d,.callF f,as_,none,none⟩) (hb:base≤H.length) (ha:z0u al as_=args) (hc:z0D P f args H R)
  (h:∀ v H',R (.ret v) H'→(∃ b,Mod H m b H')∧VX P (z2h [m]) base ios B K Gp s ((d,v)::al) H') (hp:∀ v H',R (.panic v) H'→Gp v):VX P (z2h [m]) base ios B K Gp (.branch i s .stop) al H:=by
 refine zKc ho rfl hb (z0L ha hc (fun v H' q=>?_) (fun v H' q=>hp v H' q))
 obtain ⟨⟨b,hm⟩,h2⟩:=h v H' q
 exact z2K (z5n hm) h2
theorem zCY {i d m:Nat} {f:FuncId} {as_:List Arg} {fs cs vs:List AV} {R:z2U} (ho:ios[i]? =some ⟨some d,.callV,as_,none,none⟩) (hb:base≤H.length) (ha:z0u al as_=.clo (.func f) fs cs::vs) (hbd:hasBody P f=true) (hc:z0D P f (fs++vs++cs) H R)
  (h:∀ v H',R (.ret v) H'→(∃ b,Mod H m b H')∧VX P (z2h [m]) base ios B K Gp s ((d,v)::al) H') (hp:∀ v H',R (.panic v) H'→Gp v):VX P (z2h [m]) base ios B K Gp (.branch i s .stop) al H:=by
 refine zKc ho rfl hb (z2n ha hbd hc (fun v H' q=>?_) (fun v H' q=>hp v H' q))
 obtain ⟨⟨b,hm⟩,h2⟩:=h v H' q
 exact z2K (z5n hm) h2
theorem zQP {i g:Nat} {want:Bool} {dst:Option Nat} {op:AOp} {as_:List Arg} (ho:ios[i]? =some ⟨dst,op,as_,some (g,want),none⟩) (hb:base≤H.length) (hg:z2V al g=.bool want)
  (h:VV P [⟨dst,op,as_,none,none⟩] al H (fun al' H'=>(∀ n x v,O x→z0h n x H=some v→z0h n x H'=some v)∧VX P O base ios B K Gp s al' H') (fun _ v _=>Gp v)):VX P O base ios B K Gp (.branch i s .stop) al H :=
 zKc ho rfl hb (z5h hg h)
theorem zDn {i g d:Nat} {b want:Bool} {op:AOp} {as_:List Arg} (ho:ios[i]? =some ⟨some d,op,as_,some (g,want),none⟩) (hb:base≤H.length) (hg:z2V al g=.bool b) (hw:(b==want)=false)
  (h:VX P O base ios B K Gp s ((d,.tuple [])::al) H):VX P O base ios B K Gp (.branch i s .stop) al H :=
 zKc ho rfl hb (zNt hg hw (z2K (fun _ _ _ _ q=>q) h))
theorem zKq {i g d:Nat} {want:Bool} {op:AOp} {as_:List Arg} (ho:ios[i]? =some ⟨some d,op,as_,some (g,want),none⟩) (hb:base≤H.length) (hg:z2V al g=.tuple [])
  (h:VX P O base ios B K Gp s ((d,.tuple [])::al) H):VX P O base ios B K Gp (.branch i s .stop) al H :=
 zKc ho rfl hb (zBZ hg (z2K (fun _ _ _ _ q=>q) h))
theorem z7V {i d m g:Nat} {want:Bool} {f:FuncId} {as_:List Arg} {args:List AV} {R:z2U} (ho:ios[i]? =some ⟨some d,.callF f,as_,some (g,want),none⟩) (hb:base≤H.length) (hg:z2V al g=.bool want) (ha:z0u al as_=args) (hc:z0D P f args H R)
  (h:∀ v H',R (.ret v) H'→(∃ b,Mod H m b H')∧VX P (z2h [m]) base ios B K Gp s ((d,v)::al) H') (hp:∀ v H',R (.panic v) H'→Gp v):VX P (z2h [m]) base ios B K Gp (.branch i s .stop) al H:=by
 refine zQP ho hb hg (z0L ha hc (fun v H' q=>?_) (fun v H' q=>hp v H' q))
 obtain ⟨⟨b,hm⟩,h2⟩:=h v H' q
 exact z2K (z5n hm) h2
theorem z9g {i d m g:Nat} {want:Bool} {f:FuncId} {as_:List Arg} {fs cs vs:List AV} {R:z2U} (ho:ios[i]? =some ⟨some d,.callV,as_,some (g,want),none⟩) (hb:base≤H.length) (hg:z2V al g=.bool want) (ha:z0u al as_=.clo (.func f) fs cs::vs) (hbd:hasBody P f=true) (hc:z0D P f (fs++vs++cs) H R)
  (h:∀ v H',R (.ret v) H'→(∃ b,Mod H m b H')∧VX P (z2h [m]) base ios B K Gp s ((d,v)::al) H') (hp:∀ v H',R (.panic v) H'→Gp v):VX P (z2h [m]) base ios B K Gp (.branch i s .stop) al H:=by
 refine zQP ho hb hg (z2n ha hbd hc (fun v H' q=>?_) (fun v H' q=>hp v H' q))
 obtain ⟨⟨b,hm⟩,h2⟩:=h v H' q
 exact z2K (z5n hm) h2
end vx2
structure VZ (P:Program) (I:List Nat) (O:AV→Prop) (base:Nat) (ios:List IOper) (B:List (List Nat)) (K:KL) (G:AV→Prop) (s:Sched) (al:AL) (H:z0B):Prop where
 h:∀ S:List Rd,(∀ r∈S,r.i∈I∧O r.x∧z0h r.n r.x H=some r.v)→vsL P base ios B K G s S al H
section vz
variable {P:Program} {H:z0B} {al:AL} {Q:PL} {K:KL} {I:List Nat} {O:AV→Prop} {base:Nat} {ios:List IOper} {B:List (List Nat)} {Gp:AV→Prop} {s r:Sched}
theorem vz_d {i:Nat} {d:Option Nat} {op:DOp} {as_:List Arg} {r:Option Nat} (ho:ios[i]? =some ⟨d,.i (.d op),as_,none,r⟩) (hq:z0v ⟨d,.i (.d op),as_,none,r⟩=true)
  (h:VV P [⟨d,.i (.d op),as_,none,r⟩] al H (fun al' _=>VZ P I O base ios B K Gp s al' H) (fun _ _ _=>False)):VZ P I O base ios B K Gp (.quiet i s) al H:=by
 refine ⟨fun S hS=>?_⟩
 obtain ⟨v,rd,h1,h2⟩:=z3e (K:=fun al' _=>VZ P I O base ios B K Gp s al' H) hq h.1
 have hrd:rd=none:=by
  cases rd with
  | none=>rfl
  | some q=>obtain ⟨n,x⟩:=q;exact (zWz (O:=fun _=>False) v n x h1).elim
 subst hrd
 simp only [vsL,ho,h1]
 exact h2.1 _ hS
theorem vz_l {i:Nat} {d:Option Nat} {k:Option Nat} {a:Arg} {r:Option Nat} (ho:ios[i]? =some ⟨d,.i (.m (.load k)),[a],none,r⟩) (hq:z0v ⟨d,.i (.m (.load k)),[a],none,r⟩=true) (hok:O (evL al a))
  (h:VV P [⟨d,.i (.m (.load k)),[a],none,r⟩] al H (fun al' _=>VZ P (i::I) O base ios B K Gp s al' H) (fun _ _ _=>False)):VZ P I O base ios B K Gp (.quiet i s) al H:=by
 refine ⟨fun S hS=>?_⟩
 obtain ⟨v,rd,h1,h2⟩:=z3e (K:=fun al' _=>VZ P (i::I) O base ios B K Gp s al' H) hq h.1
 simp only [vsL,ho,h1]
 refine h2.1 _ fun r hr=>?_
 cases rd with
 | none=>exact ⟨lA8 _ (hS r hr).1,(hS r hr).2⟩
 | some q =>
  obtain ⟨n,u⟩:=q
  rcases lAT.1 hr with rfl | hr
  ·exact ⟨lB2,zWy hok _ _ _ h1,z7m h1⟩
  ·exact ⟨lA8 _ (hS r hr).1,(hS r hr).2⟩
theorem vz_c {i:Nat} {o:IOper} (ho:ios[i]? =some o) (hr:o.res=none) (hb:base≤H.length) (h:VV P [o] al H (fun al' H'=>H'=H∧VZ P I O base ios B K Gp s al' H) (fun _ v _=>Gp v)) :
  VZ P I O base ios B K Gp (.branch i s .stop) al H:=by
 refine ⟨fun S hS=>?_⟩
 have hrr:rOf base o H=H.length:=by simp [rOf,hr]
 simp only [vsL,ho,hrr]
 refine ⟨⟨?_,lCN hb,?_⟩,trivial⟩
 ·simp [z9J]
 ·refine z7y.vopL_mono h.1 ?_ (fun _ _ _ q=>q)
  rintro al' H' ⟨rfl,q⟩
  refine ⟨?_,q.1 S hS⟩
  unfold z5s
  rw [ho]
  simp only
  split
  ·trivial
  ·exact fun r hr _=>(hS r hr).2.2
theorem zQN {i:Nat} {o:IOper} (ho:ios[i]? =some o) (hr:o.res=none) (hI:I.all (fun j=>(zKT B i).contains j)=true) (hb:base≤H.length)
  (h:VV P [o] al H (fun al' H'=>K al' H') (fun _ v _=>Gp v)):VZ P I O base ios B K Gp (.branch i .done .stop) al H:=by
 refine ⟨fun S hS=>?_⟩
 have hrr:rOf base o H=H.length:=by simp [rOf,hr]
 simp only [vsL,ho,hrr]
 refine ⟨⟨?_,lCN hb,?_⟩,trivial⟩
 ·simp [z9J]
 ·refine z7y.vopL_mono h.1 ?_ (fun _ _ _ q=>q)
  rintro al' H' q
  refine ⟨?_,q⟩
  unfold z5s
  rw [ho]
  simp only
  split
  ·trivial
  ·intro r hr hc
   have:=lAX.1 hI r.i (hS r hr).1
   rw [this] at hc;cases hc
theorem zCe {J:List Nat} {H':z0B} {Qp:AL→AV→z0B→Prop} (h:VZ P J O base ios B K Gp s al H'):VV P [] al H (fun a _=>VZ P J O base ios B K Gp s a H') Qp:=⟨h⟩
theorem zHK {J:List Nat} {Qp:AL→AV→z0B→Prop} (h:VZ P J O base ios B K Gp s al H):VV P [] al H (fun a h=>h=H∧VZ P J O base ios B K Gp s a H) Qp:=⟨rfl,h⟩
theorem z3y {Qp:AL→AV→z0B→Prop} (h:K al H):VV P [] al H (fun a h=>K a h) Qp:=⟨h⟩
end vz
section vz2
variable {P:Program} {H:z0B} {al:AL} {Q:PL} {K:KL} {I:List Nat} {O:AV→Prop} {base:Nat} {ios:List IOper} {B:List (List Nat)} {Gp:AV→Prop} {s r:Sched}
theorem zDm {i:Nat} {o:IOper} (ho:ios[i]? =some o) (hr:o.res=none) (hb:base≤H.length)
  (h:VV P [o] al H (fun al' H'=>(∀ n x v,O x→z0h n x H=some v→z0h n x H'=some v)∧VZ P I O base ios B K Gp s al' H') (fun _ v _=>Gp v)):VZ P I O base ios B K Gp (.branch i s .stop) al H:=by
 refine ⟨fun S hS=>?_⟩
 have hrr:rOf base o H=H.length:=by simp [rOf,hr]
 simp only [vsL,ho,hrr]
 refine ⟨⟨?_,lCN hb,?_⟩,trivial⟩
 ·simp [z9J]
 ·refine z7y.vopL_mono h.1 ?_ (fun _ _ _ q=>q)
  rintro al' H' ⟨hpres,q⟩
  have hS':∀ r∈S,r.i∈I∧O r.x∧z0h r.n r.x H'=some r.v:=fun r hr=>⟨(hS r hr).1,(hS r hr).2.1,hpres _ _ _ (hS r hr).2.1 (hS r hr).2.2⟩
  refine ⟨?_,q.1 S hS'⟩
  unfold z5s
  rw [ho]
  simp only
  split
  ·trivial
  ·exact fun r hr _=>(hS' r hr).2.2
theorem z3k {ks:List Nat} (O:AV→Prop) (h:VZ P [] O H.length ios B (fun a h=>Q .normal (z1d a ks) h) (fun _=>False) s al H):WI P (.draw 0 ios B s (some ks)) Q al H:=by
 refine ⟨⟨fun _=>False,fun _ _ f=>f.elim,?_⟩⟩
 have:z1Q H 0=H:=by simp [z1Q]
 rw [this]
 exact h.1 [] (by simp)
theorem z1b {H':z0B} {Qp:AL→AV→z0B→Prop} (hp:∀ n x v,O x→z0h n x H'=some v→z0h n x H=some v) (h:VZ P I O base ios B K Gp s al H) :
  VV P [] al H (fun a h=>(∀ n x v,O x→z0h n x H'=some v→z0h n x h=some v)∧VZ P I O base ios B K Gp s a h) Qp:=⟨⟨hp,h⟩⟩
def z2r (l:List Nat):AV→Prop
 | .ptr j _=>j∈l
 | _=>True
theorem z2d {l:List Nat} {j off:Nat} (h:j∈l):z2r l (.ptr j off):=h
theorem z1K {l:List Nat} {H':z0B} (h:∀ j∈l,∀ b,H[j]? =some b→H'[j]? =some b):∀ n x v,z2r l x→z0h n x H=some v→z0h n x H'=some v:=by
 intro n x v ho hl
 cases x with
 | ptr j off =>
  simp only [z0h] at hl ⊢
  cases hg:H[j]? with
  | none=>rw [hg] at hl;simp at hl
  | some c =>
   rw [hg] at hl
   rw [h j ho c hg]
   exact hl
 | _=>exact hl
theorem z2v {G:z0B}:∀ (n:Option Nat) (x v:AV),O x→z0h n x H=some v→z0h n x (H++G)=some v:=by
 intro n x v _ hl
 cases x with
 | ptr j off =>
  simp only [z0h] at hl ⊢
  cases hg:H[j]? with
  | none=>rw [hg] at hl;simp at hl
  | some c =>
   rw [hg] at hl
   rw [z0G hg]
   exact hl
 | _=>exact hl
end vz2
section maps
variable {P:Program} {H:z0B} {al:AL} {K:KL} {Qp:AL→AV→z0B→Prop} {os:List IOper} {d:Nat} {x y z:Arg}
theorem zLE {cs:List AV} (hx:evL al x=.cptr cs) (h:VV P os ((d,.cptr cs)::al) H K Qp):VV P (⟨some d,.i (.d .nilCheck),[x],none,none⟩::os) al H K Qp :=
 z2S (v:=.cptr cs) (by simp only [z0u,hx,z1W]) h
theorem zHJ {kt:KT} {M:Nat} {key zero v:AV} {ok:Bool} {es:z3t} {c:Nat} {r:Option Nat} (hx:evL al x=.map M) (hy:evL al y=key) (hg:H[M]? =some (.map es c)) (hk:z8g kt key=true)
  (hf:z3B kt key es 0=some r) (hv:zBN zero ok (r.map fun i=>(es.getD i (.top,.top,0)).2.1)=v) (h:VV P os ((d,v)::al) H K Qp) :
  VV P (⟨some d,.i (.n (.lookup kt zero ok)),[x,y],none,none⟩::os) al H K Qp:=by
 subst hv
 refine z8X ?_ h
 have hm:z3j H M=some (es,c):=by simp only [z3j,hg]
 have hv:z0u al [x,y]=[.map M,key]:=by
  show [evL al x,evL al y]=_
  rw [hx,hy]
 show z9X (.lookup kt zero ok) (z0u al [x,y]) H H.length=_
 rw [hv]
 simp only [z9X,hm,hk,if_true,hf]
 cases r<;>rfl
def zXY (es:z3t) (c:Nat) (key v:AV):Option Nat→Blk
 | some i=>.map (z7f es i key v) c
 | none=>.map (es++[(key,v,c)]) (c+1)
theorem zLA {kt:KT} {M:Nat} {key v:AV} {es:z3t} {c:Nat} {r:Option Nat} (hx:evL al x=.map M) (hy:evL al y=key) (hz:evL al z=v) (hg:H[M]? =some (.map es c)) (hk:z8g kt key=true)
  (hf:z3B kt key es 0=some r) (h:VV P os al (H.set M (zXY es c key v r)) K Qp) :
  VV P (⟨none,.i (.n (.update kt)),[x,y,z],none,none⟩::os) al H K Qp:=by
 refine zNu (v:=.top) (H':=H.set M (zXY es c key v r)) ?_ h
 have hm:z3j H M=some (es,c):=by simp only [z3j,hg]
 have hv:z0u al [x,y,z]=[.map M,key,v]:=by
  show [evL al x,evL al y,evL al z]=_
  rw [hx,hy,hz]
 show z9X (.update kt) (z0u al [x,y,z]) H H.length=_
 rw [hv]
 simp only [z9X,hm,hk,if_true,hf]
 cases r<;>rfl
end maps
end Go.Ab
