/- Part 9 of the proof. -/
import Derived.Test.YtagcckioikbanaaGreatDoorA08
set_option linter.unusedVariables false
set_option linter.unusedSimpArgs false
namespace Go.Ab
variable {P:Program} {φ:Phi} {σ:Sig} {H:z0B} {w:World}
inductive Sched where
 | done
 | stop
 | quiet (i:Nat) (s:Sched)
 | branch (i:Nat) (s r:Sched)
structure Rd where
 i:Nat
 n:Option Nat
 x:AV
 v:AV
def z1H (o:IOper):Bool :=
 match o.op with
 | .i (.d _)=>o.res.isNone
 | .i (.m (.load _))=>o.res.isNone
 | _=>false
def z1y (o:IOper) (env:Env) (H:z0B):Option (AV × Option (Option Nat × AV)) :=
 match o.op with
 | .i (.d d)=>match z1t d (o.args.map (aev env)) with
  | some v=>some (v,none)
  | none=>none
 | .i (.m (.load n))=>match o.args.map (aev env) with
  | [x]=>match z0p n x H with
   | some v=>some (v,some (n,x))
   | none=>none
  | _=>none
 | _=>none
def z2Y (o:IOper) (env:Env) (H:z0B):Option (AV × Option (Option Nat × AV)) :=
 match o.guard with
 | none=>z1y o env H
 | some (g,want)=>match env.get g with
  | .bool b=>if b=want then z1y o env H else some (.tuple [],none)
  | .tuple []=>some (.tuple [],none)
  | _=>none
theorem z6W {o:IOper} {r:Nat} {env:Env} {K:Env→z0B→Prop} {Qp:Env→AV→z0B→Prop} {v:AV} {rd:Option (Option Nat × AV)}
  (h:z1y o env H=some (v,rd)):z3v P o r env H K Qp↔K (z6s env o.dst v) H:=by
 unfold z1y at h
 unfold z3v
 split at h
 ·rename_i d hd
  split at h
  ·rename_i v' hv
   injection h with h;injection h with h1 h2;subst h1
   simp [hd,z5p,hv]
  ·cases h
 ·rename_i n hd
  split at h
  ·rename_i x hx
   split at h
   ·rename_i v' hv
    injection h with h;injection h with h1 h2;subst h1
    simp [hd,z5p,z7J,hx,hv]
   ·cases h
  ·cases h
 ·cases h
theorem zFW {o:IOper} {r:Nat} {env:Env} {K:Env→z0B→Prop} {Qp:Env→AV→z0B→Prop} {v:AV} {rd:Option (Option Nat × AV)}
  (h:z2Y o env H=some (v,rd)):vop P o r env H K Qp↔K (z6s env o.dst v) H:=by
 unfold z2Y at h
 unfold vop
 split at h
 ·rename_i hg;simp only [hg];exact z6W h
 ·rename_i g want hg
  simp only [hg]
  split at h
  ·rename_i b hb
   simp only [hb]
   split at h
   ·rename_i e;rw [if_pos e];exact z6W h
   ·rename_i e;rw [if_neg e];injection h with h;injection h with h1 h2;subst h1;exact Iff.rfl
  ·rename_i hb;simp only [hb];injection h with h;injection h with h1 h2;subst h1;exact Iff.rfl
  ·cases h
def Arg.tmps:Arg→List Nat
 | .tmp t=>[t]
 | .const _=>[]
def IOper.reads (o:IOper):List Nat :=
 (match o.guard with | some (g,_)=>[g] | none=>[])++o.args.flatMap Arg.tmps
def zRG (x y:IOper):Bool :=
 (match x.dst with | some d=>!y.reads.contains d | none=>true) &&
 (match y.dst with | some d=>!x.reads.contains d | none=>true) &&
 (match x.dst,y.dst with | some d,some e=>d != e | _,_=>true)
theorem zJS {env:Env} {dst:Option Nat} {v:AV} {t:Nat} (h:∀ d,dst=some d→d≠t):(z6s env dst v).get t=env.get t:=by
 cases dst with
 | none=>rfl
 | some d =>
  have:=h d rfl
  simp only [z6s,Env.set]
  cases Nat.blt d env.n with
  | false=>rfl
  | true =>
   show (bif Nat.beq d t then v else env.get t)=_
   cases e:Nat.beq d t with
   | true=>exact absurd (lA2 e) this
   | false=>rfl
theorem zMW {env:Env} {d e:Option Nat} {u v:AV} (h:∀ a b,d=some a→e=some b→a≠b):z6s (z6s env d u) e v=z6s (z6s env e v) d u:=by
 cases d with
 | none=>rfl
 | some a =>
  cases e with
  | none=>rfl
  | some b =>
   have hne:=h a b rfl rfl
   simp only [z6s,Env.set]
   cases h1:Nat.blt a env.n<;>cases h2:Nat.blt b env.n<;>simp only [cond_true,cond_false,h1,h2]
   congr 1
   funext t
   cases e1:Nat.beq b t<;>cases e2:Nat.beq a t<;>simp only [cond_true,cond_false]
   exact absurd ((lA2 e2).trans (lA2 e1).symm) hne
theorem zKL {o:IOper} {env:Env} {dst:Option Nat} {v:AV} (h:∀ d,dst=some d→d∉o.reads):o.args.map (aev (z6s env dst v))=o.args.map (aev env):=by
 apply List.map_congr_left
 intro x hx
 cases x with
 | const c=>rfl
 | tmp t =>
  refine zJS fun d hd e=>h d hd ?_
  subst e
  simp only [IOper.reads,lA5,lDA]
  exact .inr ⟨_,hx,by simp [Arg.tmps]⟩
theorem zGG {o:IOper} {env:Env} {dst:Option Nat} {v:AV} {g:Nat} {want:Bool} (hg:o.guard=some (g,want)) (h:∀ d,dst=some d→d∉o.reads) :
  (z6s env dst v).get g=env.get g :=
 zJS fun d hd e=>h d hd (by subst e;simp [IOper.reads,hg])
theorem zFX {o:IOper} {env:Env} {dst:Option Nat} {v:AV} (h:∀ d,dst=some d→d∉o.reads):z2Y o (z6s env dst v) H=z2Y o env H:=by
 have e:z1y o (z6s env dst v) H=z1y o env H:=by unfold z1y;rw [zKL h]
 unfold z2Y
 split
 ·exact e
 ·rename_i g want hg
  rw [zGG hg h]
  split
  ·rw [e]
  ·rfl
  ·rfl
abbrev Gp (G:AV→Prop):Env→AV→z0B→Prop:=fun _ v _=>G v
theorem zJE {o:IOper} {r:Nat} {env:Env} {K K':Env→z0B→Prop} {G:AV→Prop} (h:vop P o r env H K (Gp G)) (hk:∀ e H,K e H→K' e H):vop P o r env H K' (Gp G):=by
 have ex:z3v P o r env H K (Gp G)→z3v P o r env H K' (Gp G):=by
  intro h
  unfold z3v at h ⊢
  split at h
  ·split at h
   ·exact hk _ _ h
   ·exact h.elim
  ·exact z0C.mono h fun x H' q=>by cases x<;>first | exact hk _ _ q | exact q
  ·split at h
   ·exact ⟨h.1,z0C.mono h.2 fun x H' q=>by cases x<;>first | exact hk _ _ q | exact q⟩
   ·exact h.elim
  ·exact h
  ·split at h
   ·exact fun x hx=>hk _ _ (h x hx)
   ·exact h.elim
 unfold vop at h ⊢
 split at h
 ·exact ex h
 ·split at h
  ·split at h
   ·rename_i e;simp only [e,if_true];exact ex h
   ·rename_i e;simp only [e,if_false];exact hk _ _ h
  ·exact hk _ _ h
  ·exact h.elim
theorem zNJ {n:Option Nat} {args:List AV} {r:Nat} {v:AV} {H':z0B} (h:z7J (.load n) args H r=some (v,H')):H'=H:=by
 match args with
 | []=>simp [z7J] at h
 | [x] =>
  simp only [z7J] at h
  split at h
  ·injection h with h;injection h with _ h;exact h.symm
  ·cases h
 | _::_::_=>simp [z7J] at h
theorem zJF {o:IOper} {r:Nat} {env:Env} {K:Env→z0B→Prop} {G:AV→Prop} (h:vop P o r env H K (Gp G)) :
  vop P o r env H (fun e H'=>(∃ u,e=z6s env o.dst u)∧(z1H o=true→H'=H)∧K e H') (Gp G):=by
 have ex:z3v P o r env H K (Gp G)→z3v P o r env H (fun e H'=>(∃ u,e=z6s env o.dst u)∧(z1H o=true→H'=H)∧K e H') (Gp G):=by
  intro h
  unfold z3v at h ⊢
  split at h
  ·rename_i op hop
   split at h
   ·rename_i v H' hv
    refine ⟨⟨_,rfl⟩,fun hq=>?_,h⟩
    unfold z1H at hq
    rw [hop] at hq
    split at hq
    ·rename_i d e;injection e with e;subst e
     simp only [z5p] at hv
     split at hv
     ·injection hv with hv;injection hv with _ hv;exact hv.symm
     ·cases hv
    ·rename_i d e;injection e with e;subst e
     exact zNJ hv
    ·cases hq
   ·exact h.elim
  ·rename_i f hop
   have hq:z1H o=false:=by simp [z1H,hop]
   exact z0C.mono h fun x H' q=>by
    cases x with
    | ret v=>exact ⟨⟨_,rfl⟩,(fun e=>by rw [hq] at e;cases e),q⟩
    | panic v=>exact q
  ·rename_i hop
   have hq:z1H o=false:=by simp [z1H,hop]
   split at h
   ·exact ⟨h.1,z0C.mono h.2 fun x H' q=>by
     cases x with
     | ret v=>exact ⟨⟨_,rfl⟩,(fun e=>by rw [hq] at e;cases e),q⟩
     | panic v=>exact q⟩
   ·exact h.elim
  ·exact h
  ·rename_i hop
   have hq:z1H o=false:=by simp [z1H,hop]
   split at h
   ·exact fun x hx=>⟨⟨_,rfl⟩,(fun e=>by rw [hq] at e;cases e),h x hx⟩
   ·exact h.elim
 unfold vop at h ⊢
 split at h
 ·exact ex h
 ·split at h
  ·split at h
   ·rename_i e;simp only [e,if_true];exact ex h
   ·rename_i e;rw [if_neg e];exact ⟨⟨_,rfl⟩,fun _=>rfl,h⟩
  ·exact ⟨⟨_,rfl⟩,fun _=>rfl,h⟩
  ·exact h.elim
theorem zRw {o:IOper} {r:Nat} {env:Env} {dst:Option Nat} {u:AV} {K:Env→z0B→Prop} {G:AV→Prop} (h1:∀ d,dst=some d→d∉o.reads) (h2:∀ a b,dst=some a→o.dst=some b→a≠b)
  (h:vop P o r (z6s env dst u) H K (Gp G)):vop P o r env H (fun e H'=>K (z6s e dst u) H') (Gp G):=by
 have comm:∀ v,z6s (z6s env dst u) o.dst v=z6s (z6s env o.dst v) dst u:=fun v=>zMW h2
 have ex:z3v P o r (z6s env dst u) H K (Gp G)→z3v P o r env H (fun e H'=>K (z6s e dst u) H') (Gp G):=by
  intro h
  unfold z3v at h ⊢
  rw [zKL h1] at h
  split at h
  ·split at h
   ·rw [comm] at h;exact h
   ·exact h.elim
  ·exact z0C.mono h fun x H' q=>by
    cases x with
    | ret v=>show K _ _;rw [←comm];exact q
    | panic v=>exact q
  ·split at h
   ·exact ⟨h.1,z0C.mono h.2 fun x H' q=>by
     cases x with
     | ret v=>show K _ _;rw [←comm];exact q
     | panic v=>exact q⟩
   ·exact h.elim
  ·exact h
  ·split at h
   ·exact fun x hx=>by have:=h x hx;rw [comm] at this;exact this
   ·exact h.elim
 unfold vop at h ⊢
 split at h
 ·exact ex h
 ·rename_i g want hg
  rw [zGG hg h1] at h
  split at h
  ·split at h
   ·rename_i e;simp only [e,if_true];exact ex h
   ·rename_i e;simp only [e,if_false];rw [comm] at h;exact h
  ·rw [comm] at h;exact h
  ·exact h.elim
def zLY (b:List (List Nat)) (z:Nat):List Nat:=b.getD z []
def zHR (ios:List IOper) (B:List (List Nat)) (S:List Rd) (z:Nat) (H':z0B):Prop :=
 ∀ o,ios[z]? =some o→z1H o=false→∀ s∈S,s.i∉zLY B z→z0p s.n s.x H'=some s.v
def rOf (base:Nat) (o:IOper) (H:z0B):Nat :=
 match o.res with
 | some k=>base+k
 | none=>H.length
def z7z (S:List Rd) (i:Nat) (v:AV):Option (Option Nat × AV)→List Rd
 | some (n,x)=>⟨i,n,x,v⟩::S
 | none=>S
def zTw (P:Program) (base:Nat) (o:IOper) (env:Env) (H:z0B) (K:Env→z0B→Prop) (G:AV→Prop):Prop :=
 z9j H (rOf base o H)∧base≤rOf base o H∧vop P o (rOf base o H) env H K (Gp G)
def vs (P:Program) (base:Nat) (ios:List IOper) (B:List (List Nat)) (K:Env→z0B→Prop) (G:AV→Prop):Sched→List Rd→Env→z0B→Prop
 | .done,_,env,H=>K env H
 | .stop,_,_,_=>True
 | .quiet i s,S,env,H=>match ios[i]? with
  | some o=>match z2Y o env H with
   | some (v,rd)=>vs P base ios B K G s (z7z S i v rd) (z6s env o.dst v) H
   | none=>False
  | none=>False
 | .branch i s r,S,env,H=>(match ios[i]? with
  | some o=>zTw P base o env H (fun env' H'=>zHR ios B S i H'∧vs P base ios B K G s S env' H') G
  | none=>False)∧vs P base ios B K G r S env H
theorem zCu {ios:List IOper} {B:List (List Nat)} {S T:List Rd} {z:Nat} {H':z0B} (h:∀ s∈T,s∈S) (k:zHR ios B S z H'):zHR ios B T z H' :=
 fun o ho hq s hs hn=>k o ho hq s (h s hs) hn
theorem zLy {base:Nat} {o:IOper} {env:Env} {K K':Env→z0B→Prop} {G:AV→Prop} (h:zTw P base o env H K G) (hk:∀ e H,K e H→K' e H):zTw P base o env H K' G :=
 ⟨h.1,h.2.1,zJE h.2.2 hk⟩
theorem zDX {base:Nat} {ios:List IOper} {B:List (List Nat)} {K:Env→z0B→Prop} {G:AV→Prop}:∀ (s:Sched) {S T:List Rd} {env:Env} {H:z0B},(∀ x∈T,x∈S) →
  vs P base ios B K G s S env H→vs P base ios B K G s T env H
 | .done,_,_,_,_,_,h=>h
 | .stop,_,_,_,_,_,_=>trivial
 | .quiet i s,S,T,env,H,hT,h=>by
  simp only [vs] at h ⊢
  split at h
  ·split at h
   ·rename_i v rd _
    refine zDX s ?_ h
    cases rd with
    | none=>exact hT
    | some q =>
     intro x hx
     simp only [z7z,lAV] at hx ⊢
     exact hx.imp id (hT x)
   ·exact h.elim
  ·exact h.elim
 | .branch i s r,S,T,env,H,hT,h=>by
  simp only [vs] at h ⊢
  refine ⟨?_,zDX r hT h.2⟩
  have h1:=h.1
  split at h1
  ·exact zLy h1 fun e H q=>⟨zCu hT q.1,zDX s hT q.2⟩
  ·exact h1.elim
def zRn:Sched→List Nat
 | .branch i _ r=>i::zRn r
 | _=>[]
def z1f (ops:Array Oper) (ios:List IOper):Bool→Array Bool→Sched→Bool
 | _,listed,.done=>(Region.ready .any ops listed).isEmpty
 | top,_,.stop=>!top
 | _,listed,.quiet i s=>(Region.ready .any ops listed).contains i&&(match ios[i]? with | some o=>z1H o | none=>false)&&z1f ops ios true (listed.setIfInBounds i true) s
 | top,listed,.branch i s r=>(!top||(Region.ready .any ops listed).all (fun z=>(i::zRn r).contains z))&&(Region.ready .any ops listed).contains i &&
   z1f ops ios true (listed.setIfInBounds i true) s&&z1f ops ios false listed r
def zHs (ops:Array Oper) (B:List (List Nat)):Bool :=
 (List.range ops.size).all fun z=>(zLY B z).all fun j=>(((ops[z]?).map (·.after)).getD #[]).toList.any fun e=>Region.binds .any e&&(e.on==j||(zLY B e.on).contains j)
def zBy (B:List (List Nat)) (listed:Array Bool):Prop:=∀ i,listed.getD i false=true→∀ j∈zLY B i,listed.getD j false=true
theorem zFV {ops:Array Oper} {B:List (List Nat)} {listed:Array Bool} {z:Nat} (hb:zHs ops B=true) (hc:zBy B listed) (hz:z∈Region.ready .any ops listed) :
  ∀ j∈zLY B z,listed.getD j false=true:=by
 obtain ⟨h0,o,ho,hall⟩:=mem_ready.1 hz
 intro j hj
 have hlt:z<ops.size:=(lD4.1 ho).1
 have h1:=lAZ.1 hb z (lA8.2 hlt)
 have h2:=lAZ.1 h1 j hj
 rw [ho] at h2
 obtain ⟨e,he,h3⟩:=lA0.1 h2
 rw [lAS,lB2] at h3
 have h4:=hall e (by simpa using he) h3.1
 rcases h3.2 with h5 | h5
 ·rw [←eq_of_beq h5];exact h4
 ·exact hc _ h4 j (by simpa using h5)
theorem zPk {ops:Array Oper} {listed:Array Bool} {z:Nat} (hz:z∈Region.ready .any ops listed):listed.getD z false=false:=by
 obtain ⟨h0,o,ho,_⟩:=mem_ready.1 hz
 cases h:listed[z]? with
 | none=>simp [lAU,h]
 | some b=>simp [lAU,h] at h0 ⊢;exact h0
theorem zBE {ops:Array Oper} {B:List (List Nat)} {listed:Array Bool} {c z:Nat} (hb:zHs ops B=true) (hc:zBy B listed) (hz:z∈Region.ready .any ops listed)
  (hcr:c∈Region.ready .any ops listed):c∉zLY B z:=by
 intro h
 have:=zFV hb hc hz c h
 rw [zPk hcr] at this;cases this
theorem zBy.set {ops:Array Oper} {B:List (List Nat)} {listed:Array Bool} {z:Nat} (hb:zHs ops B=true) (hc:zBy B listed) (hz:z∈Region.ready .any ops listed) :
  zBy B (listed.setIfInBounds z true):=by
 intro i hi j hj
 by_cases e:z=i
 ·subst e;exact getD_set_true (zFV hb hc hz j hj)
 ·rw [getD_set_ne false e] at hi
  exact getD_set_true (hc i hi j hj)
def zBx (ios:List IOper) (B:List (List Nat)):Bool :=
 (List.range ios.length).all fun c=>(List.range ios.length).all fun z=>c==z||(zLY B z).contains c||(zLY B c).contains z ||
  (match ios[c]?,ios[z]? with | some x,some y=>!z1H x||zRG x y | _,_=>true)
theorem zRF {ios:List IOper} {B:List (List Nat)} {c z:Nat} {x y:IOper} (ha:zBx ios B=true) (hx:ios[c]? =some x) (hy:ios[z]? =some y) (hne:c≠z)
  (h1:c∉zLY B z) (h2:z∉zLY B c) (hq:z1H x=true):zRG x y=true:=by
 have l1:c<ios.length:=(lAA.1 hx).1
 have l2:z<ios.length:=(lAA.1 hy).1
 have k:=lAZ.1 (lAZ.1 ha c (lA8.2 l1)) z (lA8.2 l2)
 simp only [hx,hy,hq,lDL,lCP,lB2,lDF] at k
 rcases k with ((k | k) | k) | k
 ·exact absurd k hne
 ·exact absurd (by simpa using k) h1
 ·exact absurd (by simpa using k) h2
 ·exact k
theorem zLd {x y:IOper} (h:zRG x y=true):(∀ d,x.dst=some d→d∉y.reads)∧(∀ d,y.dst=some d→d∉x.reads)∧(∀ a b,x.dst=some a→y.dst=some b→a≠b):=by
 unfold zRG at h
 rw [lAS,lAS] at h
 obtain ⟨⟨h1,h2⟩,h3⟩:=h
 refine ⟨fun d hd=>?_,fun d hd=>?_,fun a b ha hb=>?_⟩
 ·rw [hd] at h1;simpa using h1
 ·rw [hd] at h2;simpa using h2
 ·rw [ha,hb] at h3;simpa using h3
theorem zDu {o:IOper} {env:Env} {H':z0B} {v:AV} {rd:Option (Option Nat × AV)} (h:z2Y o env H=some (v,rd)) (hr:∀ n x,rd=some (n,x)→z0p n x H'=some v) :
  z2Y o env H'=some (v,rd):=by
 have ex:∀ {v rd},z1y o env H=some (v,rd)→(∀ n x,rd=some (n,x)→z0p n x H'=some v)→z1y o env H'=some (v,rd):=by
  intro v rd h hr
  unfold z1y at h ⊢
  split at h
  ·exact h
  ·rename_i n hn
   split at h
   ·rename_i x hx
    split at h
    ·injection h with h;injection h with h1 h2;subst h1;subst h2
     have:=hr _ _ rfl
     simp [this]
    ·cases h
   ·cases h
  ·cases h
 unfold z2Y at h ⊢
 split at h
 ·exact ex h hr
 ·split at h
  ·split at h
   ·rename_i e;rw [if_pos e];exact ex h hr
   ·rename_i e;rw [if_neg e];exact h
  ·exact h
  ·cases h
theorem zMU {listed:Array Bool} {i j:Nat}:(listed.setIfInBounds i true).setIfInBounds j true=(listed.setIfInBounds j true).setIfInBounds i true:=by
 by_cases h:i=j
 ·subst h;rfl
 ·exact Array.setIfInBounds_comm _ _ h
section zQg
variable {base:Nat} {ops:Array Oper} {ios:List IOper} {B:List (List Nat)} {K:Env→z0B→Prop} {G:AV→Prop}
theorem zBt (z:Nat):∀ (s:Sched) (top:Bool) (listed:Array Bool) (S:List Rd) (env:Env) (H:z0B),z1f ops ios top listed s=true→z∈zRn s→vs P base ios B K G s S env H →
  ∃ o s',ios[z]? =some o∧z1f ops ios true (listed.setIfInBounds z true) s'=true∧zTw P base o env H (fun e H'=>zHR ios B S z H'∧vs P base ios B K G s' S e H') G
 | .done,_,_,_,_,_,_,h,_=>by simp [zRn] at h
 | .stop,_,_,_,_,_,_,h,_=>by simp [zRn] at h
 | .quiet _ _,_,_,_,_,_,_,h,_=>by simp [zRn] at h
 | .branch i s r,top,listed,S,env,H,hs,h,hv=>by
  simp only [z1f,lAS] at hs
  simp only [vs] at hv
  simp only [zRn,lAV] at h
  by_cases e:z=i
  ·subst e
   have h1:=hv.1
   split at h1
   ·rename_i o ho
    exact ⟨o,s,ho,hs.1.2,h1⟩
   ·exact h1.elim
  ·exact zBt z r false listed S env H hs.2 (h.resolve_left e) hv.2
theorem zQg (hb:zHs ops B=true) (ha:zBx ios B=true) (z:Nat):∀ (s:Sched) (listed:Array Bool) (S:List Rd) (env:Env) (H:z0B),base≤H.length →
  z1f ops ios true listed s=true→zBy B listed→z∈Region.ready .any ops listed→vs P base ios B K G s S env H →
  ∃ o s',ios[z]? =some o∧z1f ops ios true (listed.setIfInBounds z true) s'=true∧zTw P base o env H (fun e H'=>zHR ios B S z H'∧vs P base ios B K G s' S e H') G
 | .done,listed,S,env,H,_,hs,_,hz,_=>by
  simp only [z1f,lCX] at hs
  rw [hs] at hz;cases hz
 | .stop,listed,S,env,H,_,hs,_,hz,_=>by simp [z1f] at hs
 | .branch i s r,listed,S,env,H,_,hs,_,hz,hv=>by
  refine zBt z _ true listed S env H hs ?_ hv
  simp only [z1f,lAS,lDL,lCP] at hs
  have:=lAZ.1 hs.1.1.1 z hz
  simpa [zRn] using this
 | .quiet c s,listed,S,env,H,hB,hs,hcl,hz,hv=>by
  simp only [z1f,lAS] at hs
  obtain ⟨⟨hc1,hc2⟩,hs2⟩:=hs
  have hcr:c∈Region.ready .any ops listed:=by simpa using hc1
  simp only [vs] at hv
  split at hv
  case h_2=>exact hv.elim
  rename_i oc hoc
  rw [hoc] at hc2
  simp only at hc2
  split at hv
  case h_2=>exact hv.elim
  rename_i v rd hq
  have hsub:∀ x∈S,x∈z7z S c v rd:=by
   intro x hx
   cases rd with
   | none=>exact hx
   | some q=>simp [z7z,hx]
  by_cases e:c=z
  ·subst e
   have hres:oc.res=none:=by
    unfold z1H at hc2
    split at hc2<;>simp_all
   have hr:rOf base oc H=H.length:=by simp [rOf,hres]
   refine ⟨oc,s,hoc,hs2,⟨.inl hr,by rw [hr];exact hB,(zFW hq).2 ⟨?_,zDX s hsub hv⟩⟩⟩
   intro o ho hqo
   rw [hoc] at ho;injection ho with ho;subst ho
   rw [hc2] at hqo;cases hqo
  ·have hzc:=zBE hb hcl hz hcr
   have hcz:=zBE hb hcl hcr hz
   have hne:z≠c:=fun q=>e q.symm
   obtain ⟨oz,s',hoz,hs',hvz⟩:=zQg hb ha z s (listed.setIfInBounds c true) (z7z S c v rd) (z6s env oc.dst v) H hB hs2 (hcl.set hb hcr) (ready_mono hz hne) hv
   have hap:=zLd (zRF ha hoc hoz e hzc hcz hc2)
   refine ⟨oz,.quiet c s',hoz,?_,hvz.1,hvz.2.1,?_⟩
   ·simp only [z1f,lAS,hoc]
    exact ⟨⟨by simpa using ready_mono hcr e,hc2⟩,by rw [zMU];exact hs'⟩
   ·have k1:=zJF hvz.2.2
    have k2:=zJF (zRw hap.1 hap.2.2 k1)
    refine zJE k2 ?_
    rintro e' H' ⟨⟨u,rfl⟩,hqz,_,_,hob,hvs⟩
    refine ⟨zCu hsub hob,?_⟩
    simp only [vs,hoc]
    have hq':z2Y oc (z6s env oz.dst u) H'=some (v,rd):=by
     rw [zFX hap.2.1]
     refine zDu hq fun n x hrd=>?_
     subst hrd
     cases hqq:z1H oz with
     | true =>
      rw [hqz hqq]
      unfold z2Y at hq
      have ex:z1y oc env H=some (v,some (n,x))→z0p n x H=some v:=by
       intro h
       unfold z1y at h
       split at h
       ·split at h
        ·injection h with h;injection h with _ h;cases h
        ·cases h
       ·split at h
        ·split at h
         ·rename_i hl
          injection h with h;injection h with h1 h2;injection h2 with h2;injection h2 with h2 h3
          subst h1;subst h2;subst h3;exact hl
         ·cases h
        ·cases h
       ·cases h
      split at hq
      ·exact ex hq
      ·split at hq
       ·split at hq
        ·exact ex hq
        ·injection hq with hq;injection hq with _ hq;cases hq
       ·injection hq with hq;injection hq with _ hq;cases hq
       ·cases hq
     | false=>exact hob oz hoz hqq ⟨c,n,x,v⟩ (by simp [z7z]) hzc
    rw [hq']
    exact hvs
end zQg
end Go.Ab
