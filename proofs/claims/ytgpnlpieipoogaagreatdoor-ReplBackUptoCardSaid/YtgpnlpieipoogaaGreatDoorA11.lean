/- Part 11 of the proof. -/
import Derived.Test.YtgpnlpieipoogaaGreatDoorA10
set_option linter.unusedVariables false
set_option linter.unusedSimpArgs false
namespace Go.Ab
variable {P:Program} {φ:Phi} {σ:Sig} {H:Heap} {w:World}
abbrev AL:=List (Nat × AV)
inductive IC where
 | skip
 | region (ios:List IOper) (keep:Option (List Nat))
 | draw (k:Nat) (ios:List IOper) (B:List (List Nat)) (s:Sched) (keep:Option (List Nat))
 | seq (a b:IC)
 | cond (c:Arg) (a b:IC)
 | block (id:Nat) (c:IC)
 | loop (keep:Option (List Nat)) (c:IC)
 | exit (id:Nat)
 | ret
def evL (al:AL):Arg→AV
 | .tmp t=>look al t
 | .const v=>v
def evsL (al:AL):List Arg→List AV
 | []=>[]
 | a::as=>evL al a::evsL al as
def setL (al:AL) (dst:Option Nat) (v:AV):AL :=
 match dst with
 | some d=>(d,v)::al
 | none=>al
def forget (al:AL):Option (List Nat)→AL
 | none=>al
 | some ks=>keepL al ks
def mkE (n:Nat) (al:AL):Env:=⟨n,look al⟩
theorem evsL_eq (n:Nat) (al:AL):∀ as:List Arg,as.map (aev (mkE n al))=evsL al as
 | []=>rfl
 | a::as=>by
  rw [List.map_cons,evsL_eq n al as]
  cases a<;>rfl
theorem setL_eq {n:Nat} {al:AL} {dst:Option Nat} {v:AV} (h:∀ d,dst=some d→d<n):setD (mkE n al) dst v=mkE n (setL al dst v):=by
 cases dst with
 | none=>rfl
 | some d =>
  have hb:Nat.blt d n=true:=by rw [Nat.blt_eq];exact h d rfl
  show (bif Nat.blt d n then _ else _)=_
  rw [hb];rfl
def dstOk (n:Nat) (o:IOper):Bool :=
 match o.dst with
 | some d=>Nat.blt d n
 | none=>true
theorem dstOk_spec {n:Nat} {o:IOper} (h:dstOk n o=true):∀ d,o.dst=some d→d<n:=by
 intro d hd
 unfold dstOk at h
 rw [hd] at h
 simpa [Nat.blt_eq] using h
abbrev KL:=AL→Heap→Prop
abbrev PL:=AX→AL→Heap→Prop
def vbackL (dst:Option Nat) (al:AL) (K:KL) (Qp:AL→AV→Heap→Prop):CPost
 | .ret v,H=>K (setL al dst v) H
 | .panic v,H=>Qp al v H
def vexecL (P:Program) (o:IOper) (r:Nat) (al:AL) (H:Heap) (K:KL) (Qp:AL→AV→Heap→Prop):Prop :=
 match o.op with
 | .i op=>match isem op (evsL al o.args) H r with
  | some (v,H')=>K (setL al o.dst v) H'
  | none=>False
 | .callF f=>ACall P f (evsL al o.args) H (vbackL o.dst al K Qp)
 | .callV=>match evsL al o.args with
  | .clo (.func f) fs cs::vs=>hasBody P f=true∧ACall P f (fs++vs++cs) H (vbackL o.dst al K Qp)
  | _=>False
 | .panic=>match evsL al o.args with
  | [.iface t v]=>Qp al (.iface t v) H
  | _=>False
 | .next=>match nnext (evsL al o.args) H with
  | some l=>∀ x∈l,K (setL al o.dst x.1) x.2
  | none=>False
def vopL (P:Program) (o:IOper) (r:Nat) (al:AL) (H:Heap) (K:KL) (Qp:AL→AV→Heap→Prop):Prop :=
 match o.guard with
 | none=>vexecL P o r al H K Qp
 | some (g,want)=>match look al g with
  | .bool b=>if b=want then vexecL P o r al H K Qp else K (setL al o.dst (.tuple [])) H
  | .tuple []=>K (setL al o.dst (.tuple [])) H
  | _=>False
theorem vopL_sound {n:Nat} {o:IOper} {r:Nat} {al:AL} {K:KL} {Qp:AL→AV→Heap→Prop} {K':Env→Heap→Prop} {Qp':Env→AV→Heap→Prop} (hd:dstOk n o=true)
  (hk:∀ al H,K al H→K' (mkE n al) H) (hp:∀ al v H,Qp al v H→Qp' (mkE n al) v H) (h:vopL P o r al H K Qp):vop P o r (mkE n al) H K' Qp':=by
 have hs:=fun v=>setL_eq (n:=n) (al:=al) (v:=v) (dstOk_spec hd)
 have ex:vexecL P o r al H K Qp→vexec P o r (mkE n al) H K' Qp':=by
  intro h
  have bk:∀ r H,vbackL o.dst al K Qp r H→vback o.dst (mkE n al) K' Qp' r H:=by
   intro r H q
   cases r with
   | ret v=>show K' _ _;rw [hs];exact hk _ _ q
   | panic v=>exact hp _ _ _ q
  unfold vexecL at h
  unfold vexec
  rw [evsL_eq]
  split at h
  ·rename_i op hop
   simp only [hop]
   split at h
   ·rename_i v H' hv;simp only [hv];rw [hs];exact hk _ _ h
   ·exact h.elim
  ·rename_i f hop;simp only [hop];exact ACall.mono h bk
  ·rename_i hop
   simp only [hop]
   split at h
   ·rename_i f fs cs vs hv;simp only [hv];exact ⟨h.1,ACall.mono h.2 bk⟩
   ·exact h.elim
  ·rename_i hop
   simp only [hop]
   split at h
   ·rename_i t v hv;simp only [hv];exact hp _ _ _ h
   ·exact h.elim
  ·rename_i hop
   simp only [hop]
   split at h
   ·rename_i l hv;simp only [hv];exact fun x hx=>by rw [hs];exact hk _ _ (h x hx)
   ·exact h.elim
 unfold vopL at h
 unfold vop
 split at h
 ·rename_i hg;simp only [hg];exact ex h
 ·rename_i g want hg
  simp only [hg]
  have e:(mkE n al).get g=look al g:=rfl
  rw [e]
  split at h
  ·rename_i b hb
   simp only [hb]
   split at h
   ·rename_i e;rw [if_pos e];exact ex h
   ·rename_i e;rw [if_neg e,hs];exact hk _ _ h
  ·rename_i hb;simp only [hb];rw [hs];exact hk _ _ h
  ·exact h.elim
def vopsL (P:Program):List IOper→AL→Heap→KL→(AL→AV→Heap→Prop)→Prop
 | [],al,H,K,_=>K al H
 | o::os,al,H,K,Qp=>vopL P o H.length al H (fun al' H'=>vopsL P os al' H' K Qp) Qp
theorem vopsL_sound {n:Nat} {K:KL} {Qp:AL→AV→Heap→Prop} {K':Env→Heap→Prop} {Qp':Env→AV→Heap→Prop}
  (hk:∀ al H,K al H→K' (mkE n al) H) (hp:∀ al v H,Qp al v H→Qp' (mkE n al) v H):∀ (os:List IOper) (al:AL) (H:Heap),os.all (dstOk n)=true →
  vopsL P os al H K Qp→vops P os (mkE n al) H K' Qp'
 | [],al,H,_,h=>hk _ _ h
 | o::os,al,H,hd,h=>by
  simp only [List.all_cons,Bool.and_eq_true] at hd
  exact vopL_sound hd.1 (fun al H q=>vopsL_sound hk hp os al H hd.2 q) hp h
def quietExecL (o:IOper) (al:AL) (H:Heap):Option (AV × Option (Option Nat × AV)) :=
 match o.op with
 | .i (.d d)=>match dsem d (evsL al o.args) with
  | some v=>some (v,none)
  | none=>none
 | .i (.m (.load n))=>match evsL al o.args with
  | [x]=>match rload n x H with
   | some v=>some (v,some (n,x))
   | none=>none
  | _=>none
 | _=>none
def quietValL (o:IOper) (al:AL) (H:Heap):Option (AV × Option (Option Nat × AV)) :=
 match o.guard with
 | none=>quietExecL o al H
 | some (g,want)=>match look al g with
  | .bool b=>if b=want then quietExecL o al H else some (.tuple [],none)
  | .tuple []=>some (.tuple [],none)
  | _=>none
theorem quietValL_eq (n:Nat) (o:IOper) (al:AL) (H:Heap):quietVal o (mkE n al) H=quietValL o al H:=by
 unfold quietVal quietValL quietExec quietExecL
 rw [evsL_eq]
 rfl
def obligL (ios:List IOper) (B:List (List Nat)) (S:List Rd) (z:Nat) (H':Heap):Prop :=
 match ios[z]? with
 | some o=>if isQuiet o then True else ∀ s∈S,(blen B z).contains s.i=false→rload s.n s.x H'=some s.v
 | none=>True
theorem obligL_sound {ios:List IOper} {B:List (List Nat)} {S:List Rd} {z:Nat} (h:obligL ios B S z H):oblig ios B S z H:=by
 intro o ho hq s hs hn
 unfold obligL at h
 rw [ho] at h
 simp only [hq,Bool.false_eq_true,if_false] at h
 exact h s hs (by simpa using hn)
def freeB (H:Heap) (r:Nat):Bool:=Nat.beq r H.length||(match H[r]? with | some .resv=>true | _=>false)
theorem freeB_spec {r:Nat} (h:freeB H r=true):Free H r:=by
 unfold freeB at h
 rw [Bool.or_eq_true] at h
 rcases h with h | h
 ·exact .inl (Nat.eq_of_beq_eq_true h)
 ·split at h
  ·rename_i e;exact .inr e
  ·cases h
def vsL (P:Program) (base:Nat) (ios:List IOper) (B:List (List Nat)) (K:KL) (G:AV→Prop):Sched→List Rd→AL→Heap→Prop
 | .done,_,al,H=>K al H
 | .stop,_,_,_=>True
 | .quiet i s,S,al,H=>match ios[i]? with
  | some o=>match quietValL o al H with
   | some (v,rd)=>vsL P base ios B K G s (withRd S i v rd) (setL al o.dst v) H
   | none=>False
  | none=>False
 | .branch i s r,S,al,H=>(match ios[i]? with
  | some o=>freeB H (rOf base o H)=true∧Nat.ble base (rOf base o H)=true ∧
    vopL P o (rOf base o H) al H (fun al' H'=>obligL ios B S i H'∧vsL P base ios B K G s S al' H') (fun _ v _=>G v)
  | none=>False)∧(match r with | .stop=>True | _=>vsL P base ios B K G r S al H)
theorem vsL_sound {n base:Nat} {ios:List IOper} {B:List (List Nat)} {K:KL} {G:AV→Prop} {K':Env→Heap→Prop} (hd:ios.all (dstOk n)=true) (hk:∀ al H,K al H→K' (mkE n al) H) :
  ∀ (s:Sched) (S:List Rd) (al:AL) (H:Heap),vsL P base ios B K G s S al H→vs P base ios B K' G s S (mkE n al) H
 | .done,S,al,H,h=>hk _ _ h
 | .stop,S,al,H,_=>trivial
 | .quiet i s,S,al,H,h=>by
  simp only [vsL] at h
  simp only [vs]
  split at h
  ·rename_i o ho
   simp only [ho,quietValL_eq]
   split at h
   ·rename_i v rd hq
    have hd':dstOk n o=true:=List.all_eq_true.1 hd o (List.mem_of_getElem? ho)
    simp only [hq]
    rw [setL_eq (dstOk_spec hd')]
    exact vsL_sound hd hk s _ _ _ h
   ·exact h.elim
  ·exact h.elim
 | .branch i s r,S,al,H,h=>by
  simp only [vsL] at h
  simp only [vs]
  refine ⟨?_,?_⟩
  ·have h1:=h.1
   split at h1
   ·rename_i o ho
    have hd':dstOk n o=true:=List.all_eq_true.1 hd o (List.mem_of_getElem? ho)
    simp only [ho]
    refine ⟨freeB_spec h1.1,Nat.le_of_ble_eq_true h1.2.1,vopL_sound hd' ?_ (fun _ _ _ q=>q) h1.2.2⟩
    intro al' H' q
    exact ⟨obligL_sound q.1,vsL_sound hd hk s S al' H' q.2⟩
   ·exact h1.elim
  ·have h2:=h.2
   cases r with
   | stop=>trivial
   | done=>exact vsL_sound hd hk .done S al H h2
   | quiet i' s'=>exact vsL_sound hd hk (.quiet i' s') S al H h2
   | branch i' s' r'=>exact vsL_sound hd hk (.branch i' s' r') S al H h2
def LX.then (next:KL) (Q:PL):PL
 | .normal,e,H=>next e H
 | x,e,H=>Q x e H
def LX.inBlock (id:Nat) (Q:PL):PL
 | .exit id',e,H=>if id'=id then Q .normal e H else Q (.exit id') e H
 | x,e,H=>Q x e H
def iwp (P:Program):IC→PL→AL→Heap→Prop
 | .skip,Q,al,H=>Q .normal al H
 | .region ios keep,Q,al,H=>vopsL P ios al H (fun al' H'=>Q .normal (forget al' keep) H') (fun al' v H'=>Q (.panic v) al' H')
 | .draw k ios B s keep,Q,al,H=>∃ G:AV→Prop,(∀ v H,G v→Q (.panic v) [] H)∧vsL P H.length ios B (fun al' H'=>Q .normal (forget al' keep) H') G s [] al (reserve H k)
 | .seq a b,Q,al,H=>iwp P a (LX.then (iwp P b Q) Q) al H
 | .cond c a b,Q,al,H=>match evL al c with
  | .bool true=>iwp P a Q al H
  | .bool false=>iwp P b Q al H
  | _=>False
 | .block id c,Q,al,H=>iwp P c (LX.inBlock id Q) al H
 | .loop keep c,Q,al,H=>∃ (I:Nat→AL→Heap→Prop) (n₀:Nat),I n₀ (forget al keep) H ∧
   ∀ n al H,I n al H→iwp P c (LX.then (fun al' H'=>∃ n',n'<n∧I n' (forget al' keep) H') Q) al H
 | .exit id,Q,al,H=>Q (.exit id) al H
 | .ret,Q,al,H=>Q .ret al H
inductive Ann where
 | plain (keep:Option (List Nat))
 | draw (k:Nat) (res:List (Option Nat)) (B:List (List Nat)) (s:Sched) (keep:Option (List Nat))
def withRes:List IOper→List (Option Nat)→List IOper
 | [],_=>[]
 | o::os,[]=>o::withRes os []
 | o::os,r::rs=>{ o with res:=r }::withRes os rs
theorem withRes_stripped:∀ (l:List IOper) (rs:List (Option Nat)),(∀ o∈l,({ o with res:=none }:IOper)=o)→stripped (withRes l rs)=l
 | [],_,_=>rfl
 | o::os,[],h=>by
  simp only [withRes,stripped,List.map_cons]
  rw [h o (by simp)]
  have:=withRes_stripped os [] (fun x hx=>h x (by simp [hx]))
  simp only [stripped] at this
  rw [this]
 | o::os,r::rs,h=>by
  simp only [withRes,stripped,List.map_cons]
  have h1:=h o (by simp)
  have:=withRes_stripped os rs (fun x hx=>h x (by simp [hx]))
  simp only [stripped] at this
  rw [this]
  exact congrArg (· :: os) h1
def cCode (P:Program) (n:Nat):Code→List Ann→Option (IC × List Ann)
 | .skip,l=>some (.skip,l)
 | .region _ ops false,.plain keep::l=>match cList P ops ops.toList with
  | some ios=>if ios.all (dstOk n) then some (.region ios keep,l) else none
  | none=>none
 | .region _ ops true,.draw k res B s keep::l=>match cList P ops ops.toList with
  | some ios=>if (withRes ios res).all (dstOk n)&&befOk ops B&&apartOk (withRes ios res) B&&schedOk ops (withRes ios res) true (Array.replicate ops.size false) s then
    some (.draw k (withRes ios res) B s keep,l) else none
  | none=>none
 | .seq a b,l=>match cCode P n a l with
  | some (x,l₁)=>match cCode P n b l₁ with
   | some (y,l₂)=>some (.seq x y,l₂)
   | none=>none
  | none=>none
 | .cond c a b,l=>match cArg c,cCode P n a l with
  | some z,some (x,l₁)=>match cCode P n b l₁ with
   | some (y,l₂)=>some (.cond z x y,l₂)
   | none=>none
  | _,_=>none
 | .block id c,l=>match cCode P n c l with
  | some (x,l₁)=>some (.block id x,l₁)
  | none=>none
 | .loop c,.plain keep::l=>match cCode P n c l with
  | some (x,l₁)=>some (.loop keep x,l₁)
  | none=>none
 | .exit id,l=>some (.exit id,l)
 | .ret,l=>some (.ret,l)
 | _,_=>none
def AX.isPanic:AX→Bool
 | .panic _=>true
 | _=>false
def AX.isNormal:AX→Bool
 | .normal=>true
 | _=>false
def up (n:Nat) (Q:PL):Post:=fun x env H=>∃ m al,env=mkE m al∧(x.isPanic=false→m=n)∧Q x al H
theorem up_of {n:Nat} {Q:PL} {x:AX} {al:AL} (h:Q x al H):up n Q x (mkE n al) H:=⟨n,al,rfl,fun _=>rfl,h⟩
theorem erel_forget {n:Nat} {al:AL} {t:Array Value} (h:ERel φ σ (mkE n al) t) (keep:Option (List Nat)):ERel φ σ (mkE n (forget al keep)) t:=by
 cases keep with
 | none=>exact h
 | some ks=>exact h.keep ks
theorem awp_forget {c:Code} {n:Nat} {Q:Post} {keep:Option (List Nat)} {al:AL} (h:AWP P c Q (mkE n (forget al keep)) H):AWP P c Q (mkE n al) H :=
 fun φ σ a w hr er=>h φ σ a w hr (erel_forget er keep)
def forgetX (keep:Option (List Nat)) (Q:PL):PL
 | .normal,al,H=>Q .normal (forget al keep) H
 | x,al,H=>Q x al H
theorem awp_forget_post {c:Code} {n:Nat} {Q:PL} {env:Env} {keep:Option (List Nat)} (h:AWP P c (up n (forgetX keep Q)) env H):AWP P c (up n Q) env H:=by
 intro φ σ a w hr er
 refine wp_mono (h φ σ a w hr er) ?_
 rintro e a' w' ⟨φ',σ',x,env',H',s,kp,xr,er',hd,m,al,rfl,hm,q⟩
 cases x with
 | normal=>exact ⟨φ',σ',.normal,_,H',s,kp,xr,erel_forget er' keep,hd,_,_,rfl,hm,q⟩
 | exit id=>exact ⟨φ',σ',.exit id,_,H',s,kp,xr,er',hd,_,_,rfl,hm,q⟩
 | goto id=>exact ⟨φ',σ',.goto id,_,H',s,kp,xr,er',hd,_,_,rfl,hm,q⟩
 | ret=>exact ⟨φ',σ',.ret,_,H',s,kp,xr,er',hd,_,_,rfl,hm,q⟩
 | panic id=>exact ⟨φ',σ',.panic id,_,H',s,kp,xr,er',hd,_,_,rfl,hm,q⟩
theorem AWP.fmap {c:Code} {n:Nat} {Q:PL} {Q':Post} {env:Env} (keep:Option (List Nat)) (h:AWP P c (up n Q) env H)
  (hq:∀ x m al H',(x.isPanic=false→m=n)→Q x al H'→Q' x (mkE m (if x.isNormal then forget al keep else al)) H'):AWP P c Q' env H:=by
 intro φ σ a w hr er
 refine wp_mono (h φ σ a w hr er) ?_
 rintro e a' w' ⟨φ',σ',x,env',H',s,kp,xr,er',hd,m,al,rfl,hm,q⟩
 refine ⟨φ',σ',x,_,H',s,kp,xr,?_,hd,hq x m al H' hm q⟩
 cases hx:x.isNormal with
 | true=>simp only [if_true];exact erel_forget er' keep
 | false=>simp only [Bool.false_eq_true,if_false];exact er'
theorem iwp_sound (hnn:NoNum P) (hm:P.follows .mixedOrders=true) {n:Nat}:∀ (c:Code) (l l':List Ann) (ic:IC),cCode P n c l=some (ic,l')→∀ (Q:PL) (al:AL) (H:Heap),
  iwp P ic Q al H→AWP P c (up n Q) (mkE n al) H
 | .skip,l,l',ic,hc,Q,al,H,h=>by
  simp only [cCode] at hc;injection hc with hc;injection hc with h1 h2;subst h1
  exact awp_skip (up_of h)
 | .ret,l,l',ic,hc,Q,al,H,h=>by
  simp only [cCode] at hc;injection hc with hc;injection hc with h1 h2;subst h1
  exact awp_ret (up_of h)
 | .exit id,l,l',ic,hc,Q,al,H,h=>by
  simp only [cCode] at hc;injection hc with hc;injection hc with h1 h2;subst h1
  exact awp_exit (up_of h)
 | .seq a b,l,l',ic,hc,Q,al,H,h=>by
  simp only [cCode] at hc
  split at hc
  case h_2=>cases hc
  rename_i x l₁ hx
  split at hc
  case h_2=>cases hc
  rename_i y l₂ hy
  injection hc with hc;injection hc with h1 h2;subst h1
  simp only [iwp] at h
  refine awp_seq ((iwp_sound hnn hm a _ _ _ hx _ al H h).mono ?_)
  rintro x env H' ⟨m,al',rfl,hmm,q⟩
  cases x with
  | normal=>cases hmm rfl;exact iwp_sound hnn hm b _ _ _ hy Q al' H' q
  | exit id=>exact ⟨m,al',rfl,hmm,q⟩
  | goto id=>exact ⟨m,al',rfl,hmm,q⟩
  | ret=>exact ⟨m,al',rfl,hmm,q⟩
  | panic v=>exact ⟨m,al',rfl,hmm,q⟩
 | .cond c a b,l,l',ic,hc,Q,al,H,h=>by
  simp only [cCode] at hc
  split at hc
  case h_2=>cases hc
  rename_i z x l₁ hz hx
  split at hc
  case h_2=>cases hc
  rename_i y l₂ hy
  injection hc with hc;injection hc with h1 h2;subst h1
  simp only [iwp] at h
  have ev:∀ t,evL al z=.bool t→∀ φ σ (a:Act),ERel φ σ (mkE n al) a.tmps→a.eval c=.bool t:=by
   intro t ht φ σ a er
   have:=cArg_rel hz er
   rw [show aev (mkE n al) z=.bool t by rw [←ht];cases z<;>rfl] at this
   generalize a.eval c=q at this
   cases this;rfl
  split at h
  ·rename_i ht;exact awp_cond (ev true ht) (iwp_sound hnn hm a _ _ _ hx Q al H h)
  ·rename_i ht;exact awp_cond (ev false ht) (iwp_sound hnn hm b _ _ _ hy Q al H h)
  ·exact h.elim
 | .block id c,l,l',ic,hc,Q,al,H,h=>by
  simp only [cCode] at hc
  split at hc
  case h_2=>cases hc
  rename_i x l₁ hx
  injection hc with hc;injection hc with h1 h2;subst h1
  simp only [iwp] at h
  refine awp_block ((iwp_sound hnn hm c _ _ _ hx _ al H h).mono ?_)
  rintro x env H' ⟨m,al',rfl,hmm,q⟩
  cases x with
  | exit id' =>
   simp only [LX.inBlock] at q
   simp only [AX.inBlock]
   split
   ·rename_i e;rw [if_pos e] at q;exact ⟨m,al',rfl,hmm,q⟩
   ·rename_i e;rw [if_neg e] at q;exact ⟨m,al',rfl,hmm,q⟩
  | normal=>exact ⟨m,al',rfl,hmm,q⟩
  | goto id=>exact ⟨m,al',rfl,hmm,q⟩
  | ret=>exact ⟨m,al',rfl,hmm,q⟩
  | panic v=>exact ⟨m,al',rfl,hmm,q⟩
 | .region id ops false,l,l',ic,hc,Q,al,H,h=>by
  cases l with
  | nil=>simp [cCode] at hc
  | cons an l =>
   cases an with
   | draw k res B s keep=>simp [cCode] at hc
   | plain keep =>
    simp only [cCode] at hc
    split at hc
    case h_2=>cases hc
    rename_i ios hios
    split at hc
    case isFalse=>cases hc
    rename_i hd
    injection hc with hc;injection hc with h1 h2;subst h1
    simp only [iwp] at h
    refine awp_forget_post (keep:=keep) (awp_region hnn hios ?_)
    exact vopsL_sound (n:=n) (fun al H q=>⟨n,al,rfl,fun _=>rfl,q⟩) (fun al v H q=>⟨n,al,rfl,fun _=>rfl,q⟩) ios al H hd h
 | .region id ops true,l,l',ic,hc,Q,al,H,h=>by
  cases l with
  | nil=>simp [cCode] at hc
  | cons an l =>
   cases an with
   | plain keep=>simp [cCode] at hc
   | draw k res B s keep =>
    simp only [cCode] at hc
    split at hc
    case h_2=>cases hc
    rename_i ios hios
    split at hc
    case isFalse=>cases hc
    rename_i hd
    simp only [Bool.and_eq_true] at hd
    injection hc with hc;injection hc with h1 h2;subst h1
    simp only [iwp] at h
    obtain ⟨G,hG,hv⟩:=h
    have hst:stripped (withRes ios res)=ios:=withRes_stripped ios res fun o ho=>by
     obtain ⟨i,hi,rfl⟩:=List.getElem_of_mem ho
     obtain ⟨e1,e2⟩:=cList_get hios
     obtain ⟨io,e3,e4⟩:=e2 i (ops.toList[i]'(by omega)) (List.getElem?_eq_getElem _)
     rw [List.getElem?_eq_getElem hi] at e3
     injection e3 with e3;rw [e3];exact cOper_res e4
    refine awp_forget_post (keep:=keep) (awp_draw (G:=G) hnn hm (by rw [hst];exact hios) hd.1.1.2 hd.1.2 hd.2 ?_ (vsL_sound (n:=n) hd.1.1.1 (fun al H q=>⟨n,al,rfl,fun _=>rfl,q⟩) s [] al _ hv))
    intro v m H hg
    exact ⟨m,[],rfl,fun e=>by simp [AX.isPanic] at e,hG v H hg⟩
 | .loop c,l,l',ic,hc,Q,al,H,h=>by
  cases l with
  | nil=>simp [cCode] at hc
  | cons an l =>
   cases an with
   | draw k res B s keep=>simp [cCode] at hc
   | plain keep =>
    simp only [cCode] at hc
    split at hc
    case h_2=>cases hc
    rename_i x l₁ hx
    injection hc with hc;injection hc with h1 h2;subst h1
    simp only [iwp] at h
    obtain ⟨I,n₀,h0,hround⟩:=h
    refine awp_forget (keep:=keep) (awp_loop (fun k env H=>∃ al,env=mkE n al∧I k al H) n₀ ⟨_,rfl,h0⟩ ?_)
    rintro k env H' ⟨al',rfl,hI⟩
    have h3:=iwp_sound hnn hm c _ _ _ hx _ al' H' (hround k al' H' hI)
    refine h3.fmap keep ?_
    rintro x m al'' H'' hmm q
    cases x with
    | normal=>obtain ⟨n',hn,hi⟩:=q;cases hmm rfl;exact ⟨n',hn,_,rfl,hi⟩
    | exit id=>exact ⟨m,al'',rfl,hmm,q⟩
    | goto id=>exact ⟨m,al'',rfl,hmm,q⟩
    | ret=>exact ⟨m,al'',rfl,hmm,q⟩
    | panic v=>exact ⟨m,al'',rfl,hmm,q⟩
 | .rangeFunc _ _ _ _,l,l',ic,hc,Q,al,H,h=>by simp [cCode] at hc
 | .scope _,l,l',ic,hc,Q,al,H,h=>by simp [cCode] at hc
 | .label _,l,l',ic,hc,Q,al,H,h=>by simp [cCode] at hc
 | .goto _,l,l',ic,hc,Q,al,H,h=>by simp [cCode] at hc
 | .refuse _,l,l',ic,hc,Q,al,H,h=>by simp [cCode] at hc
end Go.Ab
