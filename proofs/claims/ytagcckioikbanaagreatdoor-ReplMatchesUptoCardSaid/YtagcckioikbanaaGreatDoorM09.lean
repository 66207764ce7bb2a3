/- Part 9 of the proof. -/
import Derived.Test.YtagcckioikbanaaGreatDoorM08
set_option linter.unusedVariables false
set_option linter.unusedSimpArgs false
namespace Go.Ab
variable {P:Program} {φ:Phi} {σ:Sig} {H:z0B} {w:World}
inductive Sched where
 | done
 | stop
 | quiet (i:Nat) (s:Sched)
 | branch (i:Nat) (s r:Sched)
structure Rd where
 i:Nat
 n:Option Nat
 x:AV
 v:AV
def z0v (o:IOper):Bool :=
 match o.op with
 | .i (.d _)=>o.res.isNone
 | .i (.m (.load _))=>o.res.isNone
 | _=>false
def z1q (o:IOper) (env:Env) (H:z0B):Option (AV × Option (Option Nat × AV)) :=
 match o.op with
 | .i (.d d)=>match z1W d (o.args.map (aev env)) with
  | some v=>some (v,none)
  | none=>none
 | .i (.m (.load n))=>match o.args.map (aev env) with
  | [x]=>match z0h n x H with
   | some v=>some (v,some (n,x))
   | none=>none
  | _=>none
 | _=>none
def z2N (o:IOper) (env:Env) (H:z0B):Option (AV × Option (Option Nat × AV)) :=
 match o.guard with
 | none=>z1q o env H
 | some (g,want)=>match env.get g with
  | .bool b=>if b=want then z1q o env H else some (.tuple [],none)
  | .tuple []=>some (.tuple [],none)
  | _=>none
theorem z5r {o:IOper} {r:Nat} {env:Env} {K:Env→z0B→Prop} {Qp:Env→AV→z0B→Prop} {v:AV} {rd:Option (Option Nat × AV)}
  (h:z1q o env H=some (v,rd)):z3V P o r env H K Qp↔K (z6P env o.dst v) H:=by
 unfold z1q at h
 unfold z3V
 split at h
 ·rename_i d hd
  split at h
  ·rename_i v' hv
   injection h with h;injection h with h1 h2;subst h1
   simp [hd,z5a,hv]
  ·cases h
 ·rename_i n hd
  split at h
  ·rename_i x hx
   split at h
   ·rename_i v' hv
    injection h with h;injection h with h1 h2;subst h1
    simp [hd,z5a,z6m,hx,hv]
   ·cases h
  ·cases h
 ·cases h
theorem zET {o:IOper} {r:Nat} {env:Env} {K:Env→z0B→Prop} {Qp:Env→AV→z0B→Prop} {v:AV} {rd:Option (Option Nat × AV)}
  (h:z2N o env H=some (v,rd)):vop P o r env H K Qp↔K (z6P env o.dst v) H:=by
 unfold z2N at h
 unfold vop
 split at h
 ·rename_i hg;simp only [hg];exact z5r h
 ·rename_i g want hg
  simp only [hg]
  split at h
  ·rename_i b hb
   simp only [hb]
   split at h
   ·rename_i e;rw [if_pos e];exact z5r h
   ·rename_i e;rw [if_neg e];injection h with h;injection h with h1 h2;subst h1;exact Iff.rfl
  ·rename_i hb;simp only [hb];injection h with h;injection h with h1 h2;subst h1;exact Iff.rfl
  ·cases h
def Arg.tmps:Arg→List Nat
 | .tmp t=>[t]
 | .const _=>[]
def IOper.reads (o:IOper):List Nat :=
 (match o.guard with | some (g,_)=>[g] | none=>[])++o.args.flatMap Arg.tmps
def zQJ (x y:IOper):Bool :=
 (match x.dst with | some d=>!y.reads.contains d | none=>true) &&
 (match y.dst with | some d=>!x.reads.contains d | none=>true) &&
 (match x.dst,y.dst with | some d,some e=>d != e | _,_=>true)
theorem zHQ {env:Env} {dst:Option Nat} {v:AV} {t:Nat} (h:∀ d,dst=some d→d≠t):(z6P env dst v).get t=env.get t:=by
 cases dst with
 | none=>rfl
 | some d =>
  have:=h d rfl
  simp only [z6P,Env.set]
  cases Nat.blt d env.n with
  | false=>rfl
  | true =>
   show (bif Nat.beq d t then v else env.get t)=_
   cases e:Nat.beq d t with
   | true=>exact absurd (lAY e) this
   | false=>rfl
theorem zLT {env:Env} {d e:Option Nat} {u v:AV} (h:∀ a b,d=some a→e=some b→a≠b):z6P (z6P env d u) e v=z6P (z6P env e v) d u:=by
 cases d with
 | none=>rfl
 | some a =>
  cases e with
  | none=>rfl
  | some b =>
   have hne:=h a b rfl rfl
   simp only [z6P,Env.set]
   cases h1:Nat.blt a env.n<;>cases h2:Nat.blt b env.n<;>simp only [cond_true,cond_false,h1,h2]
   congr 1
   funext t
   cases e1:Nat.beq b t<;>cases e2:Nat.beq a t<;>simp only [cond_true,cond_false]
   exact absurd ((lAY e2).trans (lAY e1).symm) hne
theorem zJH {o:IOper} {env:Env} {dst:Option Nat} {v:AV} (h:∀ d,dst=some d→d∉o.reads):o.args.map (aev (z6P env dst v))=o.args.map (aev env):=by
 apply lD2
 intro x hx
 cases x with
 | const c=>rfl
 | tmp t =>
  refine zHQ fun d hd e=>h d hd ?_
  subst e
  simp only [IOper.reads,lBF,lBW]
  exact .inr ⟨_,hx,by simp [Arg.tmps]⟩
theorem zFF {o:IOper} {env:Env} {dst:Option Nat} {v:AV} {g:Nat} {want:Bool} (hg:o.guard=some (g,want)) (h:∀ d,dst=some d→d∉o.reads) :
  (z6P env dst v).get g=env.get g :=
 zHQ fun d hd e=>h d hd (by subst e;simp [IOper.reads,hg])
theorem zEU {o:IOper} {env:Env} {dst:Option Nat} {v:AV} (h:∀ d,dst=some d→d∉o.reads):z2N o (z6P env dst v) H=z2N o env H:=by
 have e:z1q o (z6P env dst v) H=z1q o env H:=by unfold z1q;rw [zJH h]
 unfold z2N
 split
 ·exact e
 ·rename_i g want hg
  rw [zFF hg h]
  split
  ·rw [e]
  ·rfl
  ·rfl
abbrev Gp (G:AV→Prop):Env→AV→z0B→Prop:=fun _ v _=>G v
theorem zHB {o:IOper} {r:Nat} {env:Env} {K K':Env→z0B→Prop} {G:AV→Prop} (h:vop P o r env H K (Gp G)) (hk:∀ e H,K e H→K' e H):vop P o r env H K' (Gp G):=by
 have ex:z3V P o r env H K (Gp G)→z3V P o r env H K' (Gp G):=by
  intro h
  unfold z3V at h ⊢
  split at h
  ·split at h
   ·exact hk _ _ h
   ·exact h.elim
  ·exact z0D.mono h fun x H' q=>by cases x<;>first | exact hk _ _ q | exact q
  ·split at h
   ·exact ⟨h.1,z0D.mono h.2 fun x H' q=>by cases x<;>first | exact hk _ _ q | exact q⟩
   ·exact h.elim
  ·exact h
  ·split at h
   ·exact fun x hx=>hk _ _ (h x hx)
   ·exact h.elim
 unfold vop at h ⊢
 split at h
 ·exact ex h
 ·split at h
  ·split at h
   ·rename_i e;simp only [e,if_true];exact ex h
   ·rename_i e;simp only [e,if_false];exact hk _ _ h
  ·exact hk _ _ h
  ·exact h.elim
theorem zMJ {n:Option Nat} {args:List AV} {r:Nat} {v:AV} {H':z0B} (h:z6m (.load n) args H r=some (v,H')):H'=H:=by
 match args with
 | []=>simp [z6m] at h
 | [x] =>
  simp only [z6m] at h
  split at h
  ·injection h with h;injection h with _ h;exact h.symm
  ·cases h
 | _::_::_=>simp [z6m] at h
theorem zHC {o:IOper} {r:Nat} {env:Env} {K:Env→z0B→Prop} {G:AV→Prop} (h:vop P o r env H K (Gp G)) :
  vop P o r env H (fun e H'=>(∃ u,e=z6P env o.dst u)∧(z0v o=true→H'=H)∧K e H') (Gp G):=by
 have ex:z3V P o r env H K (Gp G)→z3V P o r env H (fun e H'=>(∃ u,e=z6P env o.dst u)∧(z0v o=true→H'=H)∧K e H') (Gp G):=by
  intro h
  unfold z3V at h ⊢
  split at h
  ·rename_i op hop
   split at h
   ·rename_i v H' hv
    refine ⟨⟨_,rfl⟩,fun hq=>?_,h⟩
    unfold z0v at hq
    rw [hop] at hq
    split at hq
    ·rename_i d e;injection e with e;subst e
     simp only [z5a] at hv
     split at hv
     ·injection hv with hv;injection hv with _ hv;exact hv.symm
     ·cases hv
    ·rename_i d e;injection e with e;subst e
     exact zMJ hv
    ·cases hq
   ·exact h.elim
  ·rename_i f hop
   have hq:z0v o=false:=by simp [z0v,hop]
   exact z0D.mono h fun x H' q=>by
    cases x with
    | ret v=>exact ⟨⟨_,rfl⟩,(fun e=>by rw [hq] at e;cases e),q⟩
    | panic v=>exact q
  ·rename_i hop
   have hq:z0v o=false:=by simp [z0v,hop]
   split at h
   ·exact ⟨h.1,z0D.mono h.2 fun x H' q=>by
     cases x with
     | ret v=>exact ⟨⟨_,rfl⟩,(fun e=>by rw [hq] at e;cases e),q⟩
     | panic v=>exact q⟩
   ·exact h.elim
  ·exact h
  ·rename_i hop
   have hq:z0v o=false:=by simp [z0v,hop]
   split at h
   ·exact fun x hx=>⟨⟨_,rfl⟩,(fun e=>by rw [hq] at e;cases e),h x hx⟩
   ·exact h.elim
 unfold vop at h ⊢
 split at h
 ·exact ex h
 ·split at h
  ·split at h
   ·rename_i e;simp only [e,if_true];exact ex h
   ·rename_i e;rw [if_neg e];exact ⟨⟨_,rfl⟩,fun _=>rfl,h⟩
  ·exact ⟨⟨_,rfl⟩,fun _=>rfl,h⟩
  ·exact h.elim
theorem zQy {o:IOper} {r:Nat} {env:Env} {dst:Option Nat} {u:AV} {K:Env→z0B→Prop} {G:AV→Prop} (h1:∀ d,dst=some d→d∉o.reads) (h2:∀ a b,dst=some a→o.dst=some b→a≠b)
  (h:vop P o r (z6P env dst u) H K (Gp G)):vop P o r env H (fun e H'=>K (z6P e dst u) H') (Gp G):=by
 have comm:∀ v,z6P (z6P env dst u) o.dst v=z6P (z6P env o.dst v) dst u:=fun v=>zLT h2
 have ex:z3V P o r (z6P env dst u) H K (Gp G)→z3V P o r env H (fun e H'=>K (z6P e dst u) H') (Gp G):=by
  intro h
  unfold z3V at h ⊢
  rw [zJH h1] at h
  split at h
  ·split at h
   ·rw [comm] at h;exact h
   ·exact h.elim
  ·exact z0D.mono h fun x H' q=>by
    cases x with
    | ret v=>show K _ _;rw [←comm];exact q
    | panic v=>exact q
  ·split at h
   ·exact ⟨h.1,z0D.mono h.2 fun x H' q=>by
     cases x with
     | ret v=>show K _ _;rw [←comm];exact q
     | panic v=>exact q⟩
   ·exact h.elim
  ·exact h
  ·split at h
   ·exact fun x hx=>by have:=h x hx;rw [comm] at this;exact this
   ·exact h.elim
 unfold vop at h ⊢
 split at h
 ·exact ex h
 ·rename_i g want hg
  rw [zFF hg h1] at h
  split at h
  ·split at h
   ·rename_i e;simp only [e,if_true];exact ex h
   ·rename_i e;simp only [e,if_false];rw [comm] at h;exact h
  ·rw [comm] at h;exact h
  ·exact h.elim
def zKT (b:List (List Nat)) (z:Nat):List Nat:=b.getD z []
def zGL (ios:List IOper) (B:List (List Nat)) (S:List Rd) (z:Nat) (H':z0B):Prop :=
 ∀ o,ios[z]? =some o→z0v o=false→∀ s∈S,s.i∉zKT B z→z0h s.n s.x H'=some s.v
def rOf (base:Nat) (o:IOper) (H:z0B):Nat :=
 match o.res with
 | some k=>base+k
 | none=>H.length
def z7U (S:List Rd) (i:Nat) (v:AV):Option (Option Nat × AV)→List Rd
 | some (n,x)=>⟨i,n,x,v⟩::S
 | none=>S
def zSr (P:Program) (base:Nat) (o:IOper) (env:Env) (H:z0B) (K:Env→z0B→Prop) (G:AV→Prop):Prop :=
 z8t H (rOf base o H)∧base≤rOf base o H∧vop P o (rOf base o H) env H K (Gp G)
def vs (P:Program) (base:Nat) (ios:List IOper) (B:List (List Nat)) (K:Env→z0B→Prop) (G:AV→Prop):Sched→List Rd→Env→z0B→Prop
 | .done,_,env,H=>K env H
 | .stop,_,_,_=>True
 | .quiet i s,S,env,H=>match ios[i]? with
  | some o=>match z2N o env H with
   | some (v,rd)=>vs P base ios B K G s (z7U S i v rd) (z6P env o.dst v) H
   | none=>False
  | none=>False
 | .branch i s r,S,env,H=>(match ios[i]? with
  | some o=>zSr P base o env H (fun env' H'=>zGL ios B S i H'∧vs P base ios B K G s S env' H') G
  | none=>False)∧vs P base ios B K G r S env H
theorem zBw {ios:List IOper} {B:List (List Nat)} {S T:List Rd} {z:Nat} {H':z0B} (h:∀ s∈T,s∈S) (k:zGL ios B S z H'):zGL ios B T z H' :=
 fun o ho hq s hs hn=>k o ho hq s (h s hs) hn
theorem zKt {base:Nat} {o:IOper} {env:Env} {K K':Env→z0B→Prop} {G:AV→Prop} (h:zSr P base o env H K G) (hk:∀ e H,K e H→K' e H):zSr P base o env H K' G :=
 ⟨h.1,h.2.1,zHB h.2.2 hk⟩
theorem zCZ {base:Nat} {ios:List IOper} {B:List (List Nat)} {K:Env→z0B→Prop} {G:AV→Prop}:∀ (s:Sched) {S T:List Rd} {env:Env} {H:z0B},(∀ x∈T,x∈S) →
  vs P base ios B K G s S env H→vs P base ios B K G s T env H
 | .done,_,_,_,_,_,h=>h
 | .stop,_,_,_,_,_,_=>trivial
 | .quiet i s,S,T,env,H,hT,h=>by
  simp only [vs] at h ⊢
  split at h
  ·split at h
   ·rename_i v rd _
    refine zCZ s ?_ h
    cases rd with
    | none=>exact hT
    | some q =>
     intro x hx
     simp only [z7U,lAT] at hx ⊢
     exact hx.imp id (hT x)
   ·exact h.elim
  ·exact h.elim
 | .branch i s r,S,T,env,H,hT,h=>by
  simp only [vs] at h ⊢
  refine ⟨?_,zCZ r hT h.2⟩
  have h1:=h.1
  split at h1
  ·exact zKt h1 fun e H q=>⟨zBw hT q.1,zCZ s hT q.2⟩
  ·exact h1.elim
def zQq:Sched→List Nat
 | .branch i _ r=>i::zQq r
 | _=>[]
def z1X (ops:Array Oper) (ios:List IOper):Bool→Array Bool→Sched→Bool
 | _,listed,.done=>(Region.ready .any ops listed).isEmpty
 | top,_,.stop=>!top
 | _,listed,.quiet i s=>(Region.ready .any ops listed).contains i&&(match ios[i]? with | some o=>z0v o | none=>false)&&z1X ops ios true (listed.setIfInBounds i true) s
 | top,listed,.branch i s r=>(!top||(Region.ready .any ops listed).all (fun z=>(i::zQq r).contains z))&&(Region.ready .any ops listed).contains i &&
   z1X ops ios true (listed.setIfInBounds i true) s&&z1X ops ios false listed r
def zGp (ops:Array Oper) (B:List (List Nat)):Bool :=
 (List.range ops.size).all fun z=>(zKT B z).all fun j=>(((ops[z]?).map (·.after)).getD #[]).toList.any fun e=>Region.binds .any e&&(e.on==j||(zKT B e.on).contains j)
def zBF (B:List (List Nat)) (listed:Array Bool):Prop:=∀ i,listed.getD i false=true→∀ j∈zKT B i,listed.getD j false=true
theorem zES {ops:Array Oper} {B:List (List Nat)} {listed:Array Bool} {z:Nat} (hb:zGp ops B=true) (hc:zBF B listed) (hz:z∈Region.ready .any ops listed) :
  ∀ j∈zKT B z,listed.getD j false=true:=by
 obtain ⟨h0,o,ho,hall⟩:=mem_ready.1 hz
 intro j hj
 have hlt:z<ops.size:=(lD0.1 ho).1
 have h1:=lAX.1 hb z (lAZ.2 hlt)
 have h2:=lAX.1 h1 j hj
 rw [ho] at h2
 obtain ⟨e,he,h3⟩:=lA3.1 h2
 rw [lAQ,lBX] at h3
 have h4:=hall e (by simpa using he) h3.1
 rcases h3.2 with h5 | h5
 ·rw [←eq_of_beq h5];exact h4
 ·exact hc _ h4 j (by simpa using h5)
theorem zNj {ops:Array Oper} {listed:Array Bool} {z:Nat} (hz:z∈Region.ready .any ops listed):listed.getD z false=false:=by
 obtain ⟨h0,o,ho,_⟩:=mem_ready.1 hz
 cases h:listed[z]? with
 | none=>simp [lAR,h]
 | some b=>simp [lAR,h] at h0 ⊢;exact h0
theorem zAS {ops:Array Oper} {B:List (List Nat)} {listed:Array Bool} {c z:Nat} (hb:zGp ops B=true) (hc:zBF B listed) (hz:z∈Region.ready .any ops listed)
  (hcr:c∈Region.ready .any ops listed):c∉zKT B z:=by
 intro h
 have:=zES hb hc hz c h
 rw [zNj hcr] at this;cases this
theorem zBF.set {ops:Array Oper} {B:List (List Nat)} {listed:Array Bool} {z:Nat} (hb:zGp ops B=true) (hc:zBF B listed) (hz:z∈Region.ready .any ops listed) :
  zBF B (listed.setIfInBounds z true):=by
 intro i hi j hj
 by_cases e:z=i
 ·subst e;exact getD_set_true (zES hb hc hz j hj)
 ·rw [getD_set_ne false e] at hi
  exact getD_set_true (hc i hi j hj)
def zBE (ios:List IOper) (B:List (List Nat)):Bool :=
 (List.range ios.length).all fun c=>(List.range ios.length).all fun z=>c==z||(zKT B z).contains c||(zKT B c).contains z ||
  (match ios[c]?,ios[z]? with | some x,some y=>!z0v x||zQJ x y | _,_=>true)
theorem zQH {ios:List IOper} {B:List (List Nat)} {c z:Nat} {x y:IOper} (ha:zBE ios B=true) (hx:ios[c]? =some x) (hy:ios[z]? =some y) (hne:c≠z)
  (h1:c∉zKT B z) (h2:z∉zKT B c) (hq:z0v x=true):zQJ x y=true:=by
 have l1:c<ios.length:=(lAA.1 hx).1
 have l2:z<ios.length:=(lAA.1 hy).1
 have k:=lAX.1 (lAX.1 ha c (lAZ.2 l1)) z (lAZ.2 l2)
 simp only [hx,hy,hq,lDL,lCL,lBX,lCY] at k
 rcases k with ((k | k) | k) | k
 ·exact absurd k hne
 ·exact absurd (by simpa using k) h1
 ·exact absurd (by simpa using k) h2
 ·exact k
theorem zKZ {x y:IOper} (h:zQJ x y=true):(∀ d,x.dst=some d→d∉y.reads)∧(∀ d,y.dst=some d→d∉x.reads)∧(∀ a b,x.dst=some a→y.dst=some b→a≠b):=by
 unfold zQJ at h
 rw [lAQ,lAQ] at h
 obtain ⟨⟨h1,h2⟩,h3⟩:=h
 refine ⟨fun d hd=>?_,fun d hd=>?_,fun a b ha hb=>?_⟩
 ·rw [hd] at h1;simpa using h1
 ·rw [hd] at h2;simpa using h2
 ·rw [ha,hb] at h3;simpa using h3
theorem zCx {o:IOper} {env:Env} {H':z0B} {v:AV} {rd:Option (Option Nat × AV)} (h:z2N o env H=some (v,rd)) (hr:∀ n x,rd=some (n,x)→z0h n x H'=some v) :
  z2N o env H'=some (v,rd):=by
 have ex:∀ {v rd},z1q o env H=some (v,rd)→(∀ n x,rd=some (n,x)→z0h n x H'=some v)→z1q o env H'=some (v,rd):=by
  intro v rd h hr
  unfold z1q at h ⊢
  split at h
  ·exact h
  ·rename_i n hn
   split at h
   ·rename_i x hx
    split at h
    ·injection h with h;injection h with h1 h2;subst h1;subst h2
     have:=hr _ _ rfl
     simp [this]
    ·cases h
   ·cases h
  ·cases h
 unfold z2N at h ⊢
 split at h
 ·exact ex h hr
 ·split at h
  ·split at h
   ·rename_i e;rw [if_pos e];exact ex h hr
   ·rename_i e;rw [if_neg e];exact h
  ·exact h
  ·cases h
theorem zLR {listed:Array Bool} {i j:Nat}:(listed.setIfInBounds i true).setIfInBounds j true=(listed.setIfInBounds j true).setIfInBounds i true:=by
 by_cases h:i=j
 ·subst h;rfl
 ·exact Array.setIfInBounds_comm _ _ h
section zPh
variable {base:Nat} {ops:Array Oper} {ios:List IOper} {B:List (List Nat)} {K:Env→z0B→Prop} {G:AV→Prop}
theorem zBB (z:Nat):∀ (s:Sched) (top:Bool) (listed:Array Bool) (S:List Rd) (env:Env) (H:z0B),z1X ops ios top listed s=true→z∈zQq s→vs P base ios B K G s S env H →
  ∃ o s',ios[z]? =some o∧z1X ops ios true (listed.setIfInBounds z true) s'=true∧zSr P base o env H (fun e H'=>zGL ios B S z H'∧vs P base ios B K G s' S e H') G
 | .done,_,_,_,_,_,_,h,_=>by simp [zQq] at h
 | .stop,_,_,_,_,_,_,h,_=>by simp [zQq] at h
 | .quiet _ _,_,_,_,_,_,_,h,_=>by simp [zQq] at h
 | .branch i s r,top,listed,S,env,H,hs,h,hv=>by
  simp only [z1X,lAQ] at hs
  simp only [vs] at hv
  simp only [zQq,lAT] at h
  by_cases e:z=i
  ·subst e
   have h1:=hv.1
   split at h1
   ·rename_i o ho
    exact ⟨o,s,ho,hs.1.2,h1⟩
   ·exact h1.elim
  ·exact zBB z r false listed S env H hs.2 (h.resolve_left e) hv.2
theorem zPh (hb:zGp ops B=true) (ha:zBE ios B=true) (z:Nat):∀ (s:Sched) (listed:Array Bool) (S:List Rd) (env:Env) (H:z0B),base≤H.length →
  z1X ops ios true listed s=true→zBF B listed→z∈Region.ready .any ops listed→vs P base ios B K G s S env H →
  ∃ o s',ios[z]? =some o∧z1X ops ios true (listed.setIfInBounds z true) s'=true∧zSr P base o env H (fun e H'=>zGL ios B S z H'∧vs P base ios B K G s' S e H') G
 | .done,listed,S,env,H,_,hs,_,hz,_=>by
  simp only [z1X,lC2] at hs
  rw [hs] at hz;cases hz
 | .stop,listed,S,env,H,_,hs,_,hz,_=>by simp [z1X] at hs
 | .branch i s r,listed,S,env,H,_,hs,_,hz,hv=>by
  refine zBB z _ true listed S env H hs ?_ hv
  simp only [z1X,lAQ,lDL,lCL] at hs
  have:=lAX.1 hs.1.1.1 z hz
  simpa [zQq] using this
 | .quiet c s,listed,S,env,H,hB,hs,hcl,hz,hv=>by
  simp only [z1X,lAQ] at hs
  obtain ⟨⟨hc1,hc2⟩,hs2⟩:=hs
  have hcr:c∈Region.ready .any ops listed:=by simpa using hc1
  simp only [vs] at hv
  split at hv
  case h_2=>exact hv.elim
  rename_i oc hoc
  rw [hoc] at hc2
  simp only at hc2
  split at hv
  case h_2=>exact hv.elim
  rename_i v rd hq
  have hsub:∀ x∈S,x∈z7U S c v rd:=by
   intro x hx
   cases rd with
   | none=>exact hx
   | some q=>simp [z7U,hx]
  by_cases e:c=z
  ·subst e
   have hres:oc.res=none:=by
    unfold z0v at hc2
    split at hc2<;>simp_all
   have hr:rOf base oc H=H.length:=by simp [rOf,hres]
   refine ⟨oc,s,hoc,hs2,⟨.inl hr,by rw [hr];exact hB,(zET hq).2 ⟨?_,zCZ s hsub hv⟩⟩⟩
   intro o ho hqo
   rw [hoc] at ho;injection ho with ho;subst ho
   rw [hc2] at hqo;cases hqo
  ·have hzc:=zAS hb hcl hz hcr
   have hcz:=zAS hb hcl hcr hz
   have hne:z≠c:=fun q=>e q.symm
   obtain ⟨oz,s',hoz,hs',hvz⟩:=zPh hb ha z s (listed.setIfInBounds c true) (z7U S c v rd) (z6P env oc.dst v) H hB hs2 (hcl.set hb hcr) (ready_mono hz hne) hv
   have hap:=zKZ (zQH ha hoc hoz e hzc hcz hc2)
   refine ⟨oz,.quiet c s',hoz,?_,hvz.1,hvz.2.1,?_⟩
   ·simp only [z1X,lAQ,hoc]
    exact ⟨⟨by simpa using ready_mono hcr e,hc2⟩,by rw [zLR];exact hs'⟩
   ·have k1:=zHC hvz.2.2
    have k2:=zHC (zQy hap.1 hap.2.2 k1)
    refine zHB k2 ?_
    rintro e' H' ⟨⟨u,rfl⟩,hqz,_,_,hob,hvs⟩
    refine ⟨zBw hsub hob,?_⟩
    simp only [vs,hoc]
    have hq':z2N oc (z6P env oz.dst u) H'=some (v,rd):=by
     rw [zEU hap.2.1]
     refine zCx hq fun n x hrd=>?_
     subst hrd
     cases hqq:z0v oz with
     | true =>
      rw [hqz hqq]
      unfold z2N at hq
      have ex:z1q oc env H=some (v,some (n,x))→z0h n x H=some v:=by
       intro h
       unfold z1q at h
       split at h
       ·split at h
        ·injection h with h;injection h with _ h;cases h
        ·cases h
       ·split at h
        ·split at h
         ·rename_i hl
          injection h with h;injection h with h1 h2;injection h2 with h2;injection h2 with h2 h3
          subst h1;subst h2;subst h3;exact hl
         ·cases h
        ·cases h
       ·cases h
      split at hq
      ·exact ex hq
      ·split at hq
       ·split at hq
        ·exact ex hq
        ·injection hq with hq;injection hq with _ hq;cases hq
       ·injection hq with hq;injection hq with _ hq;cases hq
       ·cases hq
     | false=>exact hob oz hoz hqq ⟨c,n,x,v⟩ (by simp [z7U]) hzc
    rw [hq']
    exact hvs
end zPh
end Go.Ab
