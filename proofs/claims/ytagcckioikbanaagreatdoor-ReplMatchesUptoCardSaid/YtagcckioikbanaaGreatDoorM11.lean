/- Part 11 of the proof. -/
import Derived.Test.YtagcckioikbanaaGreatDoorM10
set_option linter.unusedVariables false
set_option linter.unusedSimpArgs false
namespace Go.Ab
variable {P:Program} {φ:Phi} {σ:Sig} {H:z0B} {w:World}
abbrev AL:=List (Nat × AV)
inductive IC where
 | skip
 | region (ios:List IOper) (keep:Option (List Nat))
 | draw (k:Nat) (ios:List IOper) (B:List (List Nat)) (s:Sched) (keep:Option (List Nat))
 | seq (a b:IC)
 | cond (c:Arg) (a b:IC)
 | block (id:Nat) (c:IC)
 | loop (keep:Option (List Nat)) (c:IC)
 | exit (id:Nat)
 | ret
def evL (al:AL):Arg→AV
 | .tmp t=>z2V al t
 | .const v=>v
def z0u (al:AL):List Arg→List AV
 | []=>[]
 | a::as=>evL al a::z0u al as
def z9H (al:AL) (dst:Option Nat) (v:AV):AL :=
 match dst with
 | some d=>(d,v)::al
 | none=>al
def forget (al:AL):Option (List Nat)→AL
 | none=>al
 | some ks=>z1d al ks
def mkE (n:Nat) (al:AL):Env:=⟨n,z2V al⟩
theorem zGf (n:Nat) (al:AL):∀ as:List Arg,as.map (aev (mkE n al))=z0u al as
 | []=>rfl
 | a::as=>by
  rw [lA6,zGf n al as]
  cases a<;>rfl
theorem zLS {n:Nat} {al:AL} {dst:Option Nat} {v:AV} (h:∀ d,dst=some d→d<n):z6P (mkE n al) dst v=mkE n (z9H al dst v):=by
 cases dst with
 | none=>rfl
 | some d =>
  have hb:Nat.blt d n=true:=by rw [lDH];exact h d rfl
  show (bif Nat.blt d n then _ else _)=_
  rw [hb];rfl
def zDS (n:Nat) (o:IOper):Bool :=
 match o.dst with
 | some d=>Nat.blt d n
 | none=>true
theorem zCJ {n:Nat} {o:IOper} (h:zDS n o=true):∀ d,o.dst=some d→d<n:=by
 intro d hd
 unfold zDS at h
 rw [hd] at h
 simpa [lDH] using h
abbrev KL:=AL→z0B→Prop
abbrev PL:=AX→AL→z0B→Prop
def zBU (dst:Option Nat) (al:AL) (K:KL) (Qp:AL→AV→z0B→Prop):z2U
 | .ret v,H=>K (z9H al dst v) H
 | .panic v,H=>Qp al v H
def z3w (P:Program) (o:IOper) (r:Nat) (al:AL) (H:z0B) (K:KL) (Qp:AL→AV→z0B→Prop):Prop :=
 match o.op with
 | .i op=>match z5a op (z0u al o.args) H r with
  | some (v,H')=>K (z9H al o.dst v) H'
  | none=>False
 | .callF f=>z0D P f (z0u al o.args) H (zBU o.dst al K Qp)
 | .callV=>match z0u al o.args with
  | .clo (.func f) fs cs::vs=>hasBody P f=true∧z0D P f (fs++vs++cs) H (zBU o.dst al K Qp)
  | _=>False
 | .panic=>match z0u al o.args with
  | [.iface t v]=>Qp al (.iface t v) H
  | _=>False
 | .next=>match zGN (z0u al o.args) H with
  | some l=>∀ x∈l,K (z9H al o.dst x.1) x.2
  | none=>False
def zKe (P:Program) (o:IOper) (r:Nat) (al:AL) (H:z0B) (K:KL) (Qp:AL→AV→z0B→Prop):Prop :=
 match o.guard with
 | none=>z3w P o r al H K Qp
 | some (g,want)=>match z2V al g with
  | .bool b=>if b=want then z3w P o r al H K Qp else K (z9H al o.dst (.tuple [])) H
  | .tuple []=>K (z9H al o.dst (.tuple [])) H
  | _=>False
theorem zBT {n:Nat} {o:IOper} {r:Nat} {al:AL} {K:KL} {Qp:AL→AV→z0B→Prop} {K':Env→z0B→Prop} {Qp':Env→AV→z0B→Prop} (hd:zDS n o=true)
  (hk:∀ al H,K al H→K' (mkE n al) H) (hp:∀ al v H,Qp al v H→Qp' (mkE n al) v H) (h:zKe P o r al H K Qp):vop P o r (mkE n al) H K' Qp':=by
 have hs:=fun v=>zLS (n:=n) (al:=al) (v:=v) (zCJ hd)
 have ex:z3w P o r al H K Qp→z3V P o r (mkE n al) H K' Qp':=by
  intro h
  have bk:∀ r H,zBU o.dst al K Qp r H→zNg o.dst (mkE n al) K' Qp' r H:=by
   intro r H q
   cases r with
   | ret v=>show K' _ _;rw [hs];exact hk _ _ q
   | panic v=>exact hp _ _ _ q
  unfold z3w at h
  unfold z3V
  rw [zGf]
  split at h
  ·rename_i op hop
   simp only [hop]
   split at h
   ·rename_i v H' hv;simp only [hv];rw [hs];exact hk _ _ h
   ·exact h.elim
  ·rename_i f hop;simp only [hop];exact z0D.mono h bk
  ·rename_i hop
   simp only [hop]
   split at h
   ·rename_i f fs cs vs hv;simp only [hv];exact ⟨h.1,z0D.mono h.2 bk⟩
   ·exact h.elim
  ·rename_i hop
   simp only [hop]
   split at h
   ·rename_i t v hv;simp only [hv];exact hp _ _ _ h
   ·exact h.elim
  ·rename_i hop
   simp only [hop]
   split at h
   ·rename_i l hv;simp only [hv];exact fun x hx=>by rw [hs];exact hk _ _ (h x hx)
   ·exact h.elim
 unfold zKe at h
 unfold vop
 split at h
 ·rename_i hg;simp only [hg];exact ex h
 ·rename_i g want hg
  simp only [hg]
  have e:(mkE n al).get g=z2V al g:=rfl
  rw [e]
  split at h
  ·rename_i b hb
   simp only [hb]
   split at h
   ·rename_i e;rw [if_pos e];exact ex h
   ·rename_i e;rw [if_neg e,hs];exact hk _ _ h
  ·rename_i hb;simp only [hb];rw [hs];exact hk _ _ h
  ·exact h.elim
def z6v (P:Program):List IOper→AL→z0B→KL→(AL→AV→z0B→Prop)→Prop
 | [],al,H,K,_=>K al H
 | o::os,al,H,K,Qp=>zKe P o H.length al H (fun al' H'=>z6v P os al' H' K Qp) Qp
theorem z6u {n:Nat} {K:KL} {Qp:AL→AV→z0B→Prop} {K':Env→z0B→Prop} {Qp':Env→AV→z0B→Prop}
  (hk:∀ al H,K al H→K' (mkE n al) H) (hp:∀ al v H,Qp al v H→Qp' (mkE n al) v H):∀ (os:List IOper) (al:AL) (H:z0B),os.all (zDS n)=true →
  z6v P os al H K Qp→zSg P os (mkE n al) H K' Qp'
 | [],al,H,_,h=>hk _ _ h
 | o::os,al,H,hd,h=>by
  simp only [lB4,lAQ] at hd
  exact zBT hd.1 (fun al H q=>z6u hk hp os al H hd.2 q) hp h
def z1p (o:IOper) (al:AL) (H:z0B):Option (AV × Option (Option Nat × AV)) :=
 match o.op with
 | .i (.d d)=>match z1W d (z0u al o.args) with
  | some v=>some (v,none)
  | none=>none
 | .i (.m (.load n))=>match z0u al o.args with
  | [x]=>match z0h n x H with
   | some v=>some (v,some (n,x))
   | none=>none
  | _=>none
 | _=>none
def z0f (o:IOper) (al:AL) (H:z0B):Option (AV × Option (Option Nat × AV)) :=
 match o.guard with
 | none=>z1p o al H
 | some (g,want)=>match z2V al g with
  | .bool b=>if b=want then z1p o al H else some (.tuple [],none)
  | .tuple []=>some (.tuple [],none)
  | _=>none
theorem zEV (n:Nat) (o:IOper) (al:AL) (H:z0B):z2N o (mkE n al) H=z0f o al H:=by
 unfold z2N z0f z1q z1p
 rw [zGf]
 rfl
def z5s (ios:List IOper) (B:List (List Nat)) (S:List Rd) (z:Nat) (H':z0B):Prop :=
 match ios[z]? with
 | some o=>if z0v o then True else ∀ s∈S,(zKT B z).contains s.i=false→z0h s.n s.x H'=some s.v
 | none=>True
theorem zEj {ios:List IOper} {B:List (List Nat)} {S:List Rd} {z:Nat} (h:z5s ios B S z H):zGL ios B S z H:=by
 intro o ho hq s hs hn
 unfold z5s at h
 rw [ho] at h
 simp only [hq,lAV,if_false] at h
 exact h s hs (by simpa using hn)
def z9J (H:z0B) (r:Nat):Bool:=Nat.beq r H.length||(match H[r]? with | some .resv=>true | _=>false)
theorem zKB {r:Nat} (h:z9J H r=true):z8t H r:=by
 unfold z9J at h
 rw [lBX] at h
 rcases h with h | h
 ·exact .inl (lAY h)
 ·split at h
  ·rename_i e;exact .inr e
  ·cases h
def vsL (P:Program) (base:Nat) (ios:List IOper) (B:List (List Nat)) (K:KL) (G:AV→Prop):Sched→List Rd→AL→z0B→Prop
 | .done,_,al,H=>K al H
 | .stop,_,_,_=>True
 | .quiet i s,S,al,H=>match ios[i]? with
  | some o=>match z0f o al H with
   | some (v,rd)=>vsL P base ios B K G s (z7U S i v rd) (z9H al o.dst v) H
   | none=>False
  | none=>False
 | .branch i s r,S,al,H=>(match ios[i]? with
  | some o=>z9J H (rOf base o H)=true∧Nat.ble base (rOf base o H)=true ∧
    zKe P o (rOf base o H) al H (fun al' H'=>z5s ios B S i H'∧vsL P base ios B K G s S al' H') (fun _ v _=>G v)
  | none=>False)∧(match r with | .stop=>True | _=>vsL P base ios B K G r S al H)
theorem z4W {n base:Nat} {ios:List IOper} {B:List (List Nat)} {K:KL} {G:AV→Prop} {K':Env→z0B→Prop} (hd:ios.all (zDS n)=true) (hk:∀ al H,K al H→K' (mkE n al) H) :
  ∀ (s:Sched) (S:List Rd) (al:AL) (H:z0B),vsL P base ios B K G s S al H→vs P base ios B K' G s S (mkE n al) H
 | .done,S,al,H,h=>hk _ _ h
 | .stop,S,al,H,_=>trivial
 | .quiet i s,S,al,H,h=>by
  simp only [vsL] at h
  simp only [vs]
  split at h
  ·rename_i o ho
   simp only [ho,zEV]
   split at h
   ·rename_i v rd hq
    have hd':zDS n o=true:=lAX.1 hd o (lAF ho)
    simp only [hq]
    rw [zLS (zCJ hd')]
    exact z4W hd hk s _ _ _ h
   ·exact h.elim
  ·exact h.elim
 | .branch i s r,S,al,H,h=>by
  simp only [vsL] at h
  simp only [vs]
  refine ⟨?_,?_⟩
  ·have h1:=h.1
   split at h1
   ·rename_i o ho
    have hd':zDS n o=true:=lAX.1 hd o (lAF ho)
    simp only [ho]
    refine ⟨zKB h1.1,lDU h1.2.1,zBT hd' ?_ (fun _ _ _ q=>q) h1.2.2⟩
    intro al' H' q
    exact ⟨zEj q.1,z4W hd hk s S al' H' q.2⟩
   ·exact h1.elim
  ·have h2:=h.2
   cases r with
   | stop=>trivial
   | done=>exact z4W hd hk .done S al H h2
   | quiet i' s'=>exact z4W hd hk (.quiet i' s') S al H h2
   | branch i' s' r'=>exact z4W hd hk (.branch i' s' r') S al H h2
def LX.then (next:KL) (Q:PL):PL
 | .normal,e,H=>next e H
 | x,e,H=>Q x e H
def LX.inBlock (id:Nat) (Q:PL):PL
 | .exit id',e,H=>if id'=id then Q .normal e H else Q (.exit id') e H
 | x,e,H=>Q x e H
def iwp (P:Program):IC→PL→AL→z0B→Prop
 | .skip,Q,al,H=>Q .normal al H
 | .region ios keep,Q,al,H=>z6v P ios al H (fun al' H'=>Q .normal (forget al' keep) H') (fun al' v H'=>Q (.panic v) al' H')
 | .draw k ios B s keep,Q,al,H=>∃ G:AV→Prop,(∀ v H,G v→Q (.panic v) [] H)∧vsL P H.length ios B (fun al' H'=>Q .normal (forget al' keep) H') G s [] al (z1Q H k)
 | .seq a b,Q,al,H=>iwp P a (LX.then (iwp P b Q) Q) al H
 | .cond c a b,Q,al,H=>match evL al c with
  | .bool true=>iwp P a Q al H
  | .bool false=>iwp P b Q al H
  | _=>False
 | .block id c,Q,al,H=>iwp P c (LX.inBlock id Q) al H
 | .loop keep c,Q,al,H=>∃ (I:Nat→AL→z0B→Prop) (n₀:Nat),I n₀ (forget al keep) H ∧
   ∀ n al H,I n al H→iwp P c (LX.then (fun al' H'=>∃ n',n'<n∧I n' (forget al' keep) H') Q) al H
 | .exit id,Q,al,H=>Q (.exit id) al H
 | .ret,Q,al,H=>Q .ret al H
inductive Ann where
 | plain (keep:Option (List Nat))
 | draw (k:Nat) (res:List (Option Nat)) (B:List (List Nat)) (s:Sched) (keep:Option (List Nat))
def z4H:List IOper→List (Option Nat)→List IOper
 | [],_=>[]
 | o::os,[]=>o::z4H os []
 | o::os,r::rs=>{ o with res:=r }::z4H os rs
theorem z3N:∀ (l:List IOper) (rs:List (Option Nat)),(∀ o∈l,({ o with res:=none }:IOper)=o)→z3x (z4H l rs)=l
 | [],_,_=>rfl
 | o::os,[],h=>by
  simp only [z4H,z3x,lA6]
  rw [h o (by simp)]
  have:=z3N os [] (fun x hx=>h x (by simp [hx]))
  simp only [z3x] at this
  rw [this]
 | o::os,r::rs,h=>by
  simp only [z4H,z3x,lA6]
  have h1:=h o (by simp)
  have:=z3N os rs (fun x hx=>h x (by simp [hx]))
  simp only [z3x] at this
  rw [this]
  exact congrArg (· :: os) h1
def z2T (P:Program) (n:Nat):Code→List Ann→Option (IC × List Ann)
 | .skip,l=>some (.skip,l)
 | .region _ ops false,.plain keep::l=>match z8q P ops ops.toList with
  | some ios=>if ios.all (zDS n) then some (.region ios keep,l) else none
  | none=>none
 | .region _ ops true,.draw k res B s keep::l=>match z8q P ops ops.toList with
  | some ios=>if (z4H ios res).all (zDS n)&&zGp ops B&&zBE (z4H ios res) B&&z1X ops (z4H ios res) true (Array.replicate ops.size false) s then
    some (.draw k (z4H ios res) B s keep,l) else none
  | none=>none
 | .seq a b,l=>match z2T P n a l with
  | some (x,l₁)=>match z2T P n b l₁ with
   | some (y,l₂)=>some (.seq x y,l₂)
   | none=>none
  | none=>none
 | .cond c a b,l=>match zQk c,z2T P n a l with
  | some z,some (x,l₁)=>match z2T P n b l₁ with
   | some (y,l₂)=>some (.cond z x y,l₂)
   | none=>none
  | _,_=>none
 | .block id c,l=>match z2T P n c l with
  | some (x,l₁)=>some (.block id x,l₁)
  | none=>none
 | .loop c,.plain keep::l=>match z2T P n c l with
  | some (x,l₁)=>some (.loop keep x,l₁)
  | none=>none
 | .exit id,l=>some (.exit id,l)
 | .ret,l=>some (.ret,l)
 | _,_=>none
def AX.isPanic:AX→Bool
 | .panic _=>true
 | _=>false
def AX.isNormal:AX→Bool
 | .normal=>true
 | _=>false
def up (n:Nat) (Q:PL):zJL:=fun x env H=>∃ m al,env=mkE m al∧(x.isPanic=false→m=n)∧Q x al H
theorem zQz {n:Nat} {Q:PL} {x:AX} {al:AL} (h:Q x al H):up n Q x (mkE n al) H:=⟨n,al,rfl,fun _=>rfl,h⟩
theorem z7L {n:Nat} {al:AL} {t:Array Value} (h:ERel φ σ (mkE n al) t) (keep:Option (List Nat)):ERel φ σ (mkE n (forget al keep)) t:=by
 cases keep with
 | none=>exact h
 | some ks=>exact h.keep ks
theorem zKX {c:Code} {n:Nat} {Q:zJL} {keep:Option (List Nat)} {al:AL} (h:AWP P c Q (mkE n (forget al keep)) H):AWP P c Q (mkE n al) H :=
 fun φ σ a w hr er=>h φ σ a w hr (z7L er keep)
def zSA (keep:Option (List Nat)) (Q:PL):PL
 | .normal,al,H=>Q .normal (forget al keep) H
 | x,al,H=>Q x al H
theorem z6D {c:Code} {n:Nat} {Q:PL} {env:Env} {keep:Option (List Nat)} (h:AWP P c (up n (zSA keep Q)) env H):AWP P c (up n Q) env H:=by
 intro φ σ a w hr er
 refine wp_mono (h φ σ a w hr er) ?_
 rintro e a' w' ⟨φ',σ',x,env',H',s,kp,xr,er',hd,m,al,rfl,hm,q⟩
 cases x with
 | normal=>exact ⟨φ',σ',.normal,_,H',s,kp,xr,z7L er' keep,hd,_,_,rfl,hm,q⟩
 | exit id=>exact ⟨φ',σ',.exit id,_,H',s,kp,xr,er',hd,_,_,rfl,hm,q⟩
 | goto id=>exact ⟨φ',σ',.goto id,_,H',s,kp,xr,er',hd,_,_,rfl,hm,q⟩
 | ret=>exact ⟨φ',σ',.ret,_,H',s,kp,xr,er',hd,_,_,rfl,hm,q⟩
 | panic id=>exact ⟨φ',σ',.panic id,_,H',s,kp,xr,er',hd,_,_,rfl,hm,q⟩
theorem AWP.fmap {c:Code} {n:Nat} {Q:PL} {Q':zJL} {env:Env} (keep:Option (List Nat)) (h:AWP P c (up n Q) env H)
  (hq:∀ x m al H',(x.isPanic=false→m=n)→Q x al H'→Q' x (mkE m (if x.isNormal then forget al keep else al)) H'):AWP P c Q' env H:=by
 intro φ σ a w hr er
 refine wp_mono (h φ σ a w hr er) ?_
 rintro e a' w' ⟨φ',σ',x,env',H',s,kp,xr,er',hd,m,al,rfl,hm,q⟩
 refine ⟨φ',σ',x,_,H',s,kp,xr,?_,hd,hq x m al H' hm q⟩
 cases hx:x.isNormal with
 | true=>simp only [if_true];exact z7L er' keep
 | false=>simp only [lAV,if_false];exact er'
theorem z2G (hnn:z6F P) (hm:P.follows .mixedOrders=true) {n:Nat}:∀ (c:Code) (l l':List Ann) (ic:IC),z2T P n c l=some (ic,l')→∀ (Q:PL) (al:AL) (H:z0B),
  iwp P ic Q al H→AWP P c (up n Q) (mkE n al) H
 | .skip,l,l',ic,hc,Q,al,H,h=>by
  simp only [z2T] at hc;injection hc with hc;injection hc with h1 h2;subst h1
  exact zQC (zQz h)
 | .ret,l,l',ic,hc,Q,al,H,h=>by
  simp only [z2T] at hc;injection hc with hc;injection hc with h1 h2;subst h1
  exact zSd (zQz h)
 | .exit id,l,l',ic,hc,Q,al,H,h=>by
  simp only [z2T] at hc;injection hc with hc;injection hc with h1 h2;subst h1
  exact zQE (zQz h)
 | .seq a b,l,l',ic,hc,Q,al,H,h=>by
  simp only [z2T] at hc
  split at hc
  case h_2=>cases hc
  rename_i x l₁ hx
  split at hc
  case h_2=>cases hc
  rename_i y l₂ hy
  injection hc with hc;injection hc with h1 h2;subst h1
  simp only [iwp] at h
  refine zSc ((z2G hnn hm a _ _ _ hx _ al H h).mono ?_)
  rintro x env H' ⟨m,al',rfl,hmm,q⟩
  cases x with
  | normal=>cases hmm rfl;exact z2G hnn hm b _ _ _ hy Q al' H' q
  | exit id=>exact ⟨m,al',rfl,hmm,q⟩
  | goto id=>exact ⟨m,al',rfl,hmm,q⟩
  | ret=>exact ⟨m,al',rfl,hmm,q⟩
  | panic v=>exact ⟨m,al',rfl,hmm,q⟩
 | .cond c a b,l,l',ic,hc,Q,al,H,h=>by
  simp only [z2T] at hc
  split at hc
  case h_2=>cases hc
  rename_i z x l₁ hz hx
  split at hc
  case h_2=>cases hc
  rename_i y l₂ hy
  injection hc with hc;injection hc with h1 h2;subst h1
  simp only [iwp] at h
  have ev:∀ t,evL al z=.bool t→∀ φ σ (a:Act),ERel φ σ (mkE n al) a.tmps→a.eval c=.bool t:=by
   intro t ht φ σ a er
   have:=zJD hz er
   rw [show aev (mkE n al) z=.bool t by rw [←ht];cases z<;>rfl] at this
   generalize a.eval c=q at this
   cases this;rfl
  split at h
  ·rename_i ht;exact zJF (ev true ht) (z2G hnn hm a _ _ _ hx Q al H h)
  ·rename_i ht;exact zJF (ev false ht) (z2G hnn hm b _ _ _ hy Q al H h)
  ·exact h.elim
 | .block id c,l,l',ic,hc,Q,al,H,h=>by
  simp only [z2T] at hc
  split at hc
  case h_2=>cases hc
  rename_i x l₁ hx
  injection hc with hc;injection hc with h1 h2;subst h1
  simp only [iwp] at h
  refine zNJ ((z2G hnn hm c _ _ _ hx _ al H h).mono ?_)
  rintro x env H' ⟨m,al',rfl,hmm,q⟩
  cases x with
  | exit id' =>
   simp only [LX.inBlock] at q
   simp only [AX.inBlock]
   split
   ·rename_i e;rw [if_pos e] at q;exact ⟨m,al',rfl,hmm,q⟩
   ·rename_i e;rw [if_neg e] at q;exact ⟨m,al',rfl,hmm,q⟩
  | normal=>exact ⟨m,al',rfl,hmm,q⟩
  | goto id=>exact ⟨m,al',rfl,hmm,q⟩
  | ret=>exact ⟨m,al',rfl,hmm,q⟩
  | panic v=>exact ⟨m,al',rfl,hmm,q⟩
 | .region id ops false,l,l',ic,hc,Q,al,H,h=>by
  cases l with
  | nil=>simp [z2T] at hc
  | cons an l =>
   cases an with
   | draw k res B s keep=>simp [z2T] at hc
   | plain keep =>
    simp only [z2T] at hc
    split at hc
    case h_2=>cases hc
    rename_i ios hios
    split at hc
    case isFalse=>cases hc
    rename_i hd
    injection hc with hc;injection hc with h1 h2;subst h1
    simp only [iwp] at h
    refine z6D (keep:=keep) (zKW hnn hios ?_)
    exact z6u (n:=n) (fun al H q=>⟨n,al,rfl,fun _=>rfl,q⟩) (fun al v H q=>⟨n,al,rfl,fun _=>rfl,q⟩) ios al H hd h
 | .region id ops true,l,l',ic,hc,Q,al,H,h=>by
  cases l with
  | nil=>simp [z2T] at hc
  | cons an l =>
   cases an with
   | plain keep=>simp [z2T] at hc
   | draw k res B s keep =>
    simp only [z2T] at hc
    split at hc
    case h_2=>cases hc
    rename_i ios hios
    split at hc
    case isFalse=>cases hc
    rename_i hd
    simp only [lAQ] at hd
    injection hc with hc;injection hc with h1 h2;subst h1
    simp only [iwp] at h
    obtain ⟨G,hG,hv⟩:=h
    have hst:z3x (z4H ios res)=ios:=z3N ios res fun o ho=>by
     obtain ⟨i,hi,rfl⟩:=lC6 ho
     obtain ⟨e1,e2⟩:=zBA hios
     obtain ⟨io,e3,e4⟩:=e2 i (ops.toList[i]'(by omega)) (lAG _)
     rw [lAG hi] at e3
     injection e3 with e3;rw [e3];exact zFd e4
    refine z6D (keep:=keep) (zQF (G:=G) hnn hm (by rw [hst];exact hios) hd.1.1.2 hd.1.2 hd.2 ?_ (z4W (n:=n) hd.1.1.1 (fun al H q=>⟨n,al,rfl,fun _=>rfl,q⟩) s [] al _ hv))
    intro v m H hg
    exact ⟨m,[],rfl,fun e=>by simp [AX.isPanic] at e,hG v H hg⟩
 | .loop c,l,l',ic,hc,Q,al,H,h=>by
  cases l with
  | nil=>simp [z2T] at hc
  | cons an l =>
   cases an with
   | draw k res B s keep=>simp [z2T] at hc
   | plain keep =>
    simp only [z2T] at hc
    split at hc
    case h_2=>cases hc
    rename_i x l₁ hx
    injection hc with hc;injection hc with h1 h2;subst h1
    simp only [iwp] at h
    obtain ⟨I,n₀,h0,hround⟩:=h
    refine zKX (keep:=keep) (zQD (fun k env H=>∃ al,env=mkE n al∧I k al H) n₀ ⟨_,rfl,h0⟩ ?_)
    rintro k env H' ⟨al',rfl,hI⟩
    have h3:=z2G hnn hm c _ _ _ hx _ al' H' (hround k al' H' hI)
    refine h3.fmap keep ?_
    rintro x m al'' H'' hmm q
    cases x with
    | normal=>obtain ⟨n',hn,hi⟩:=q;cases hmm rfl;exact ⟨n',hn,_,rfl,hi⟩
    | exit id=>exact ⟨m,al'',rfl,hmm,q⟩
    | goto id=>exact ⟨m,al'',rfl,hmm,q⟩
    | ret=>exact ⟨m,al'',rfl,hmm,q⟩
    | panic v=>exact ⟨m,al'',rfl,hmm,q⟩
 | .rangeFunc _ _ _ _,l,l',ic,hc,Q,al,H,h=>by simp [z2T] at hc
 | .scope _,l,l',ic,hc,Q,al,H,h=>by simp [z2T] at hc
 | .label _,l,l',ic,hc,Q,al,H,h=>by simp [z2T] at hc
 | .goto _,l,l',ic,hc,Q,al,H,h=>by simp [z2T] at hc
 | .refuse _,l,l',ic,hc,Q,al,H,h=>by simp [z2T] at hc
end Go.Ab
