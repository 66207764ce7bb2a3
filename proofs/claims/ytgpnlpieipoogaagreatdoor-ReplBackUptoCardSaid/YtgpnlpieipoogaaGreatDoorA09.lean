/- Part 9 of the proof. -/
import Derived.Test.YtgpnlpieipoogaaGreatDoorA08
set_option linter.unusedVariables false
set_option linter.unusedSimpArgs false
namespace Go.Ab
variable {P:Program} {φ:Phi} {σ:Sig} {H:Heap} {w:World}
inductive Sched where
 | done
 | stop
 | quiet (i:Nat) (s:Sched)
 | branch (i:Nat) (s r:Sched)
structure Rd where
 i:Nat
 n:Option Nat
 x:AV
 v:AV
def isQuiet (o:IOper):Bool :=
 match o.op with
 | .i (.d _)=>o.res.isNone
 | .i (.m (.load _))=>o.res.isNone
 | _=>false
def quietExec (o:IOper) (env:Env) (H:Heap):Option (AV × Option (Option Nat × AV)) :=
 match o.op with
 | .i (.d d)=>match dsem d (o.args.map (aev env)) with
  | some v=>some (v,none)
  | none=>none
 | .i (.m (.load n))=>match o.args.map (aev env) with
  | [x]=>match rload n x H with
   | some v=>some (v,some (n,x))
   | none=>none
  | _=>none
 | _=>none
def quietVal (o:IOper) (env:Env) (H:Heap):Option (AV × Option (Option Nat × AV)) :=
 match o.guard with
 | none=>quietExec o env H
 | some (g,want)=>match env.get g with
  | .bool b=>if b=want then quietExec o env H else some (.tuple [],none)
  | .tuple []=>some (.tuple [],none)
  | _=>none
theorem quietExec_vexec {o:IOper} {r:Nat} {env:Env} {K:Env→Heap→Prop} {Qp:Env→AV→Heap→Prop} {v:AV} {rd:Option (Option Nat × AV)}
  (h:quietExec o env H=some (v,rd)):vexec P o r env H K Qp↔K (setD env o.dst v) H:=by
 unfold quietExec at h
 unfold vexec
 split at h
 ·rename_i d hd
  split at h
  ·rename_i v' hv
   injection h with h;injection h with h1 h2;subst h1
   simp [hd,isem,hv]
  ·cases h
 ·rename_i n hd
  split at h
  ·rename_i x hx
   split at h
   ·rename_i v' hv
    injection h with h;injection h with h1 h2;subst h1
    simp [hd,isem,msem,hx,hv]
   ·cases h
  ·cases h
 ·cases h
theorem quietVal_vop {o:IOper} {r:Nat} {env:Env} {K:Env→Heap→Prop} {Qp:Env→AV→Heap→Prop} {v:AV} {rd:Option (Option Nat × AV)}
  (h:quietVal o env H=some (v,rd)):vop P o r env H K Qp↔K (setD env o.dst v) H:=by
 unfold quietVal at h
 unfold vop
 split at h
 ·rename_i hg;simp only [hg];exact quietExec_vexec h
 ·rename_i g want hg
  simp only [hg]
  split at h
  ·rename_i b hb
   simp only [hb]
   split at h
   ·rename_i e;rw [if_pos e];exact quietExec_vexec h
   ·rename_i e;rw [if_neg e];injection h with h;injection h with h1 h2;subst h1;exact Iff.rfl
  ·rename_i hb;simp only [hb];injection h with h;injection h with h1 h2;subst h1;exact Iff.rfl
  ·cases h
def Arg.tmps:Arg→List Nat
 | .tmp t=>[t]
 | .const _=>[]
def IOper.reads (o:IOper):List Nat :=
 (match o.guard with | some (g,_)=>[g] | none=>[])++o.args.flatMap Arg.tmps
def apart (x y:IOper):Bool :=
 (match x.dst with | some d=>!y.reads.contains d | none=>true) &&
 (match y.dst with | some d=>!x.reads.contains d | none=>true) &&
 (match x.dst,y.dst with | some d,some e=>d != e | _,_=>true)
theorem setD_get {env:Env} {dst:Option Nat} {v:AV} {t:Nat} (h:∀ d,dst=some d→d≠t):(setD env dst v).get t=env.get t:=by
 cases dst with
 | none=>rfl
 | some d =>
  have:=h d rfl
  simp only [setD,Env.set]
  cases Nat.blt d env.n with
  | false=>rfl
  | true =>
   show (bif Nat.beq d t then v else env.get t)=_
   cases e:Nat.beq d t with
   | true=>exact absurd (Nat.eq_of_beq_eq_true e) this
   | false=>rfl
theorem setD_comm {env:Env} {d e:Option Nat} {u v:AV} (h:∀ a b,d=some a→e=some b→a≠b):setD (setD env d u) e v=setD (setD env e v) d u:=by
 cases d with
 | none=>rfl
 | some a =>
  cases e with
  | none=>rfl
  | some b =>
   have hne:=h a b rfl rfl
   simp only [setD,Env.set]
   cases h1:Nat.blt a env.n<;>cases h2:Nat.blt b env.n<;>simp only [cond_true,cond_false,h1,h2]
   congr 1
   funext t
   cases e1:Nat.beq b t<;>cases e2:Nat.beq a t<;>simp only [cond_true,cond_false]
   exact absurd ((Nat.eq_of_beq_eq_true e2).trans (Nat.eq_of_beq_eq_true e1).symm) hne
theorem args_put {o:IOper} {env:Env} {dst:Option Nat} {v:AV} (h:∀ d,dst=some d→d∉o.reads):o.args.map (aev (setD env dst v))=o.args.map (aev env):=by
 apply List.map_congr_left
 intro x hx
 cases x with
 | const c=>rfl
 | tmp t =>
  refine setD_get fun d hd e=>h d hd ?_
  subst e
  simp only [IOper.reads,List.mem_append,List.mem_flatMap]
  exact .inr ⟨_,hx,by simp [Arg.tmps]⟩
theorem guard_put {o:IOper} {env:Env} {dst:Option Nat} {v:AV} {g:Nat} {want:Bool} (hg:o.guard=some (g,want)) (h:∀ d,dst=some d→d∉o.reads) :
  (setD env dst v).get g=env.get g :=
 setD_get fun d hd e=>h d hd (by subst e;simp [IOper.reads,hg])
theorem quietVal_put {o:IOper} {env:Env} {dst:Option Nat} {v:AV} (h:∀ d,dst=some d→d∉o.reads):quietVal o (setD env dst v) H=quietVal o env H:=by
 have e:quietExec o (setD env dst v) H=quietExec o env H:=by unfold quietExec;rw [args_put h]
 unfold quietVal
 split
 ·exact e
 ·rename_i g want hg
  rw [guard_put hg h]
  split
  ·rw [e]
  ·rfl
  ·rfl
abbrev Gp (G:AV→Prop):Env→AV→Heap→Prop:=fun _ v _=>G v
theorem vop_mono {o:IOper} {r:Nat} {env:Env} {K K':Env→Heap→Prop} {G:AV→Prop} (h:vop P o r env H K (Gp G)) (hk:∀ e H,K e H→K' e H):vop P o r env H K' (Gp G):=by
 have ex:vexec P o r env H K (Gp G)→vexec P o r env H K' (Gp G):=by
  intro h
  unfold vexec at h ⊢
  split at h
  ·split at h
   ·exact hk _ _ h
   ·exact h.elim
  ·exact ACall.mono h fun x H' q=>by cases x<;>first | exact hk _ _ q | exact q
  ·split at h
   ·exact ⟨h.1,ACall.mono h.2 fun x H' q=>by cases x<;>first | exact hk _ _ q | exact q⟩
   ·exact h.elim
  ·exact h
  ·split at h
   ·exact fun x hx=>hk _ _ (h x hx)
   ·exact h.elim
 unfold vop at h ⊢
 split at h
 ·exact ex h
 ·split at h
  ·split at h
   ·rename_i e;simp only [e,if_true];exact ex h
   ·rename_i e;simp only [e,if_false];exact hk _ _ h
  ·exact hk _ _ h
  ·exact h.elim
theorem load_same {n:Option Nat} {args:List AV} {r:Nat} {v:AV} {H':Heap} (h:msem (.load n) args H r=some (v,H')):H'=H:=by
 match args with
 | []=>simp [msem] at h
 | [x] =>
  simp only [msem] at h
  split at h
  ·injection h with h;injection h with _ h;exact h.symm
  ·cases h
 | _::_::_=>simp [msem] at h
theorem vop_info {o:IOper} {r:Nat} {env:Env} {K:Env→Heap→Prop} {G:AV→Prop} (h:vop P o r env H K (Gp G)) :
  vop P o r env H (fun e H'=>(∃ u,e=setD env o.dst u)∧(isQuiet o=true→H'=H)∧K e H') (Gp G):=by
 have ex:vexec P o r env H K (Gp G)→vexec P o r env H (fun e H'=>(∃ u,e=setD env o.dst u)∧(isQuiet o=true→H'=H)∧K e H') (Gp G):=by
  intro h
  unfold vexec at h ⊢
  split at h
  ·rename_i op hop
   split at h
   ·rename_i v H' hv
    refine ⟨⟨_,rfl⟩,fun hq=>?_,h⟩
    unfold isQuiet at hq
    rw [hop] at hq
    split at hq
    ·rename_i d e;injection e with e;subst e
     simp only [isem] at hv
     split at hv
     ·injection hv with hv;injection hv with _ hv;exact hv.symm
     ·cases hv
    ·rename_i d e;injection e with e;subst e
     exact load_same hv
    ·cases hq
   ·exact h.elim
  ·rename_i f hop
   have hq:isQuiet o=false:=by simp [isQuiet,hop]
   exact ACall.mono h fun x H' q=>by
    cases x with
    | ret v=>exact ⟨⟨_,rfl⟩,(fun e=>by rw [hq] at e;cases e),q⟩
    | panic v=>exact q
  ·rename_i hop
   have hq:isQuiet o=false:=by simp [isQuiet,hop]
   split at h
   ·exact ⟨h.1,ACall.mono h.2 fun x H' q=>by
     cases x with
     | ret v=>exact ⟨⟨_,rfl⟩,(fun e=>by rw [hq] at e;cases e),q⟩
     | panic v=>exact q⟩
   ·exact h.elim
  ·exact h
  ·rename_i hop
   have hq:isQuiet o=false:=by simp [isQuiet,hop]
   split at h
   ·exact fun x hx=>⟨⟨_,rfl⟩,(fun e=>by rw [hq] at e;cases e),h x hx⟩
   ·exact h.elim
 unfold vop at h ⊢
 split at h
 ·exact ex h
 ·split at h
  ·split at h
   ·rename_i e;simp only [e,if_true];exact ex h
   ·rename_i e;rw [if_neg e];exact ⟨⟨_,rfl⟩,fun _=>rfl,h⟩
  ·exact ⟨⟨_,rfl⟩,fun _=>rfl,h⟩
  ·exact h.elim
theorem vop_put {o:IOper} {r:Nat} {env:Env} {dst:Option Nat} {u:AV} {K:Env→Heap→Prop} {G:AV→Prop} (h1:∀ d,dst=some d→d∉o.reads) (h2:∀ a b,dst=some a→o.dst=some b→a≠b)
  (h:vop P o r (setD env dst u) H K (Gp G)):vop P o r env H (fun e H'=>K (setD e dst u) H') (Gp G):=by
 have comm:∀ v,setD (setD env dst u) o.dst v=setD (setD env o.dst v) dst u:=fun v=>setD_comm h2
 have ex:vexec P o r (setD env dst u) H K (Gp G)→vexec P o r env H (fun e H'=>K (setD e dst u) H') (Gp G):=by
  intro h
  unfold vexec at h ⊢
  rw [args_put h1] at h
  split at h
  ·split at h
   ·rw [comm] at h;exact h
   ·exact h.elim
  ·exact ACall.mono h fun x H' q=>by
    cases x with
    | ret v=>show K _ _;rw [←comm];exact q
    | panic v=>exact q
  ·split at h
   ·exact ⟨h.1,ACall.mono h.2 fun x H' q=>by
     cases x with
     | ret v=>show K _ _;rw [←comm];exact q
     | panic v=>exact q⟩
   ·exact h.elim
  ·exact h
  ·split at h
   ·exact fun x hx=>by have:=h x hx;rw [comm] at this;exact this
   ·exact h.elim
 unfold vop at h ⊢
 split at h
 ·exact ex h
 ·rename_i g want hg
  rw [guard_put hg h1] at h
  split at h
  ·split at h
   ·rename_i e;simp only [e,if_true];exact ex h
   ·rename_i e;simp only [e,if_false];rw [comm] at h;exact h
  ·rw [comm] at h;exact h
  ·exact h.elim
def blen (b:List (List Nat)) (z:Nat):List Nat:=b.getD z []
def oblig (ios:List IOper) (B:List (List Nat)) (S:List Rd) (z:Nat) (H':Heap):Prop :=
 ∀ o,ios[z]? =some o→isQuiet o=false→∀ s∈S,s.i∉blen B z→rload s.n s.x H'=some s.v
def rOf (base:Nat) (o:IOper) (H:Heap):Nat :=
 match o.res with
 | some k=>base+k
 | none=>H.length
def withRd (S:List Rd) (i:Nat) (v:AV):Option (Option Nat × AV)→List Rd
 | some (n,x)=>⟨i,n,x,v⟩::S
 | none=>S
def vopF (P:Program) (base:Nat) (o:IOper) (env:Env) (H:Heap) (K:Env→Heap→Prop) (G:AV→Prop):Prop :=
 Free H (rOf base o H)∧base≤rOf base o H∧vop P o (rOf base o H) env H K (Gp G)
def vs (P:Program) (base:Nat) (ios:List IOper) (B:List (List Nat)) (K:Env→Heap→Prop) (G:AV→Prop):Sched→List Rd→Env→Heap→Prop
 | .done,_,env,H=>K env H
 | .stop,_,_,_=>True
 | .quiet i s,S,env,H=>match ios[i]? with
  | some o=>match quietVal o env H with
   | some (v,rd)=>vs P base ios B K G s (withRd S i v rd) (setD env o.dst v) H
   | none=>False
  | none=>False
 | .branch i s r,S,env,H=>(match ios[i]? with
  | some o=>vopF P base o env H (fun env' H'=>oblig ios B S i H'∧vs P base ios B K G s S env' H') G
  | none=>False)∧vs P base ios B K G r S env H
theorem oblig_anti {ios:List IOper} {B:List (List Nat)} {S T:List Rd} {z:Nat} {H':Heap} (h:∀ s∈T,s∈S) (k:oblig ios B S z H'):oblig ios B T z H' :=
 fun o ho hq s hs hn=>k o ho hq s (h s hs) hn
theorem vopF_mono {base:Nat} {o:IOper} {env:Env} {K K':Env→Heap→Prop} {G:AV→Prop} (h:vopF P base o env H K G) (hk:∀ e H,K e H→K' e H):vopF P base o env H K' G :=
 ⟨h.1,h.2.1,vop_mono h.2.2 hk⟩
theorem vs_anti {base:Nat} {ios:List IOper} {B:List (List Nat)} {K:Env→Heap→Prop} {G:AV→Prop}:∀ (s:Sched) {S T:List Rd} {env:Env} {H:Heap},(∀ x∈T,x∈S) →
  vs P base ios B K G s S env H→vs P base ios B K G s T env H
 | .done,_,_,_,_,_,h=>h
 | .stop,_,_,_,_,_,_=>trivial
 | .quiet i s,S,T,env,H,hT,h=>by
  simp only [vs] at h ⊢
  split at h
  ·split at h
   ·rename_i v rd _
    refine vs_anti s ?_ h
    cases rd with
    | none=>exact hT
    | some q =>
     intro x hx
     simp only [withRd,List.mem_cons] at hx ⊢
     exact hx.imp id (hT x)
   ·exact h.elim
  ·exact h.elim
 | .branch i s r,S,T,env,H,hT,h=>by
  simp only [vs] at h ⊢
  refine ⟨?_,vs_anti r hT h.2⟩
  have h1:=h.1
  split at h1
  ·exact vopF_mono h1 fun e H q=>⟨oblig_anti hT q.1,vs_anti s hT q.2⟩
  ·exact h1.elim
def alts:Sched→List Nat
 | .branch i _ r=>i::alts r
 | _=>[]
def schedOk (ops:Array Oper) (ios:List IOper):Bool→Array Bool→Sched→Bool
 | _,listed,.done=>(Region.ready .any ops listed).isEmpty
 | top,_,.stop=>!top
 | _,listed,.quiet i s=>(Region.ready .any ops listed).contains i&&(match ios[i]? with | some o=>isQuiet o | none=>false)&&schedOk ops ios true (listed.setIfInBounds i true) s
 | top,listed,.branch i s r=>(!top||(Region.ready .any ops listed).all (fun z=>(i::alts r).contains z))&&(Region.ready .any ops listed).contains i &&
   schedOk ops ios true (listed.setIfInBounds i true) s&&schedOk ops ios false listed r
def befOk (ops:Array Oper) (B:List (List Nat)):Bool :=
 (List.range ops.size).all fun z=>(blen B z).all fun j=>(((ops[z]?).map (·.after)).getD #[]).toList.any fun e=>Region.binds .any e&&(e.on==j||(blen B e.on).contains j)
def Closed (B:List (List Nat)) (listed:Array Bool):Prop:=∀ i,listed.getD i false=true→∀ j∈blen B i,listed.getD j false=true
theorem ready_bef {ops:Array Oper} {B:List (List Nat)} {listed:Array Bool} {z:Nat} (hb:befOk ops B=true) (hc:Closed B listed) (hz:z∈Region.ready .any ops listed) :
  ∀ j∈blen B z,listed.getD j false=true:=by
 obtain ⟨h0,o,ho,hall⟩:=mem_ready.1 hz
 intro j hj
 have hlt:z<ops.size:=(Array.getElem?_eq_some_iff.1 ho).1
 have h1:=List.all_eq_true.1 hb z (List.mem_range.2 hlt)
 have h2:=List.all_eq_true.1 h1 j hj
 rw [ho] at h2
 obtain ⟨e,he,h3⟩:=List.any_eq_true.1 h2
 rw [Bool.and_eq_true,Bool.or_eq_true] at h3
 have h4:=hall e (by simpa using he) h3.1
 rcases h3.2 with h5 | h5
 ·rw [←eq_of_beq h5];exact h4
 ·exact hc _ h4 j (by simpa using h5)
theorem unlisted {ops:Array Oper} {listed:Array Bool} {z:Nat} (hz:z∈Region.ready .any ops listed):listed.getD z false=false:=by
 obtain ⟨h0,o,ho,_⟩:=mem_ready.1 hz
 cases h:listed[z]? with
 | none=>simp [Array.getD_eq_getD_getElem?,h]
 | some b=>simp [Array.getD_eq_getD_getElem?,h] at h0 ⊢;exact h0
theorem ready_apart {ops:Array Oper} {B:List (List Nat)} {listed:Array Bool} {c z:Nat} (hb:befOk ops B=true) (hc:Closed B listed) (hz:z∈Region.ready .any ops listed)
  (hcr:c∈Region.ready .any ops listed):c∉blen B z:=by
 intro h
 have:=ready_bef hb hc hz c h
 rw [unlisted hcr] at this;cases this
theorem Closed.set {ops:Array Oper} {B:List (List Nat)} {listed:Array Bool} {z:Nat} (hb:befOk ops B=true) (hc:Closed B listed) (hz:z∈Region.ready .any ops listed) :
  Closed B (listed.setIfInBounds z true):=by
 intro i hi j hj
 by_cases e:z=i
 ·subst e;exact getD_set_true (ready_bef hb hc hz j hj)
 ·rw [getD_set_ne false e] at hi
  exact getD_set_true (hc i hi j hj)
def apartOk (ios:List IOper) (B:List (List Nat)):Bool :=
 (List.range ios.length).all fun c=>(List.range ios.length).all fun z=>c==z||(blen B z).contains c||(blen B c).contains z ||
  (match ios[c]?,ios[z]? with | some x,some y=>!isQuiet x||apart x y | _,_=>true)
theorem apart_of {ios:List IOper} {B:List (List Nat)} {c z:Nat} {x y:IOper} (ha:apartOk ios B=true) (hx:ios[c]? =some x) (hy:ios[z]? =some y) (hne:c≠z)
  (h1:c∉blen B z) (h2:z∉blen B c) (hq:isQuiet x=true):apart x y=true:=by
 have l1:c<ios.length:=(List.getElem?_eq_some_iff.1 hx).1
 have l2:z<ios.length:=(List.getElem?_eq_some_iff.1 hy).1
 have k:=List.all_eq_true.1 (List.all_eq_true.1 ha c (List.mem_range.2 l1)) z (List.mem_range.2 l2)
 simp only [hx,hy,hq,Bool.not_true,Bool.false_or,Bool.or_eq_true,beq_iff_eq] at k
 rcases k with ((k | k) | k) | k
 ·exact absurd k hne
 ·exact absurd (by simpa using k) h1
 ·exact absurd (by simpa using k) h2
 ·exact k
theorem apart_spec {x y:IOper} (h:apart x y=true):(∀ d,x.dst=some d→d∉y.reads)∧(∀ d,y.dst=some d→d∉x.reads)∧(∀ a b,x.dst=some a→y.dst=some b→a≠b):=by
 unfold apart at h
 rw [Bool.and_eq_true,Bool.and_eq_true] at h
 obtain ⟨⟨h1,h2⟩,h3⟩:=h
 refine ⟨fun d hd=>?_,fun d hd=>?_,fun a b ha hb=>?_⟩
 ·rw [hd] at h1;simpa using h1
 ·rw [hd] at h2;simpa using h2
 ·rw [ha,hb] at h3;simpa using h3
theorem quietVal_heap {o:IOper} {env:Env} {H':Heap} {v:AV} {rd:Option (Option Nat × AV)} (h:quietVal o env H=some (v,rd)) (hr:∀ n x,rd=some (n,x)→rload n x H'=some v) :
  quietVal o env H'=some (v,rd):=by
 have ex:∀ {v rd},quietExec o env H=some (v,rd)→(∀ n x,rd=some (n,x)→rload n x H'=some v)→quietExec o env H'=some (v,rd):=by
  intro v rd h hr
  unfold quietExec at h ⊢
  split at h
  ·exact h
  ·rename_i n hn
   split at h
   ·rename_i x hx
    split at h
    ·injection h with h;injection h with h1 h2;subst h1;subst h2
     have:=hr _ _ rfl
     simp [this]
    ·cases h
   ·cases h
  ·cases h
 unfold quietVal at h ⊢
 split at h
 ·exact ex h hr
 ·split at h
  ·split at h
   ·rename_i e;rw [if_pos e];exact ex h hr
   ·rename_i e;rw [if_neg e];exact h
  ·exact h
  ·cases h
theorem set_comm_ {listed:Array Bool} {i j:Nat}:(listed.setIfInBounds i true).setIfInBounds j true=(listed.setIfInBounds j true).setIfInBounds i true:=by
 by_cases h:i=j
 ·subst h;rfl
 ·exact Array.setIfInBounds_comm _ _ h
section front
variable {base:Nat} {ops:Array Oper} {ios:List IOper} {B:List (List Nat)} {K:Env→Heap→Prop} {G:AV→Prop}
theorem branch_find (z:Nat):∀ (s:Sched) (top:Bool) (listed:Array Bool) (S:List Rd) (env:Env) (H:Heap),schedOk ops ios top listed s=true→z∈alts s→vs P base ios B K G s S env H →
  ∃ o s',ios[z]? =some o∧schedOk ops ios true (listed.setIfInBounds z true) s'=true∧vopF P base o env H (fun e H'=>oblig ios B S z H'∧vs P base ios B K G s' S e H') G
 | .done,_,_,_,_,_,_,h,_=>by simp [alts] at h
 | .stop,_,_,_,_,_,_,h,_=>by simp [alts] at h
 | .quiet _ _,_,_,_,_,_,_,h,_=>by simp [alts] at h
 | .branch i s r,top,listed,S,env,H,hs,h,hv=>by
  simp only [schedOk,Bool.and_eq_true] at hs
  simp only [vs] at hv
  simp only [alts,List.mem_cons] at h
  by_cases e:z=i
  ·subst e
   have h1:=hv.1
   split at h1
   ·rename_i o ho
    exact ⟨o,s,ho,hs.1.2,h1⟩
   ·exact h1.elim
  ·exact branch_find z r false listed S env H hs.2 (h.resolve_left e) hv.2
theorem front (hb:befOk ops B=true) (ha:apartOk ios B=true) (z:Nat):∀ (s:Sched) (listed:Array Bool) (S:List Rd) (env:Env) (H:Heap),base≤H.length →
  schedOk ops ios true listed s=true→Closed B listed→z∈Region.ready .any ops listed→vs P base ios B K G s S env H →
  ∃ o s',ios[z]? =some o∧schedOk ops ios true (listed.setIfInBounds z true) s'=true∧vopF P base o env H (fun e H'=>oblig ios B S z H'∧vs P base ios B K G s' S e H') G
 | .done,listed,S,env,H,_,hs,_,hz,_=>by
  simp only [schedOk,List.isEmpty_iff] at hs
  rw [hs] at hz;cases hz
 | .stop,listed,S,env,H,_,hs,_,hz,_=>by simp [schedOk] at hs
 | .branch i s r,listed,S,env,H,_,hs,_,hz,hv=>by
  refine branch_find z _ true listed S env H hs ?_ hv
  simp only [schedOk,Bool.and_eq_true,Bool.not_true,Bool.false_or] at hs
  have:=List.all_eq_true.1 hs.1.1.1 z hz
  simpa [alts] using this
 | .quiet c s,listed,S,env,H,hB,hs,hcl,hz,hv=>by
  simp only [schedOk,Bool.and_eq_true] at hs
  obtain ⟨⟨hc1,hc2⟩,hs2⟩:=hs
  have hcr:c∈Region.ready .any ops listed:=by simpa using hc1
  simp only [vs] at hv
  split at hv
  case h_2=>exact hv.elim
  rename_i oc hoc
  rw [hoc] at hc2
  simp only at hc2
  split at hv
  case h_2=>exact hv.elim
  rename_i v rd hq
  have hsub:∀ x∈S,x∈withRd S c v rd:=by
   intro x hx
   cases rd with
   | none=>exact hx
   | some q=>simp [withRd,hx]
  by_cases e:c=z
  ·subst e
   have hres:oc.res=none:=by
    unfold isQuiet at hc2
    split at hc2<;>simp_all
   have hr:rOf base oc H=H.length:=by simp [rOf,hres]
   refine ⟨oc,s,hoc,hs2,⟨.inl hr,by rw [hr];exact hB,(quietVal_vop hq).2 ⟨?_,vs_anti s hsub hv⟩⟩⟩
   intro o ho hqo
   rw [hoc] at ho;injection ho with ho;subst ho
   rw [hc2] at hqo;cases hqo
  ·have hzc:=ready_apart hb hcl hz hcr
   have hcz:=ready_apart hb hcl hcr hz
   have hne:z≠c:=fun q=>e q.symm
   obtain ⟨oz,s',hoz,hs',hvz⟩:=front hb ha z s (listed.setIfInBounds c true) (withRd S c v rd) (setD env oc.dst v) H hB hs2 (hcl.set hb hcr) (ready_mono hz hne) hv
   have hap:=apart_spec (apart_of ha hoc hoz e hzc hcz hc2)
   refine ⟨oz,.quiet c s',hoz,?_,hvz.1,hvz.2.1,?_⟩
   ·simp only [schedOk,Bool.and_eq_true,hoc]
    exact ⟨⟨by simpa using ready_mono hcr e,hc2⟩,by rw [set_comm_];exact hs'⟩
   ·have k1:=vop_info hvz.2.2
    have k2:=vop_info (vop_put hap.1 hap.2.2 k1)
    refine vop_mono k2 ?_
    rintro e' H' ⟨⟨u,rfl⟩,hqz,_,_,hob,hvs⟩
    refine ⟨oblig_anti hsub hob,?_⟩
    simp only [vs,hoc]
    have hq':quietVal oc (setD env oz.dst u) H'=some (v,rd):=by
     rw [quietVal_put hap.2.1]
     refine quietVal_heap hq fun n x hrd=>?_
     subst hrd
     cases hqq:isQuiet oz with
     | true =>
      rw [hqz hqq]
      unfold quietVal at hq
      have ex:quietExec oc env H=some (v,some (n,x))→rload n x H=some v:=by
       intro h
       unfold quietExec at h
       split at h
       ·split at h
        ·injection h with h;injection h with _ h;cases h
        ·cases h
       ·split at h
        ·split at h
         ·rename_i hl
          injection h with h;injection h with h1 h2;injection h2 with h2;injection h2 with h2 h3
          subst h1;subst h2;subst h3;exact hl
         ·cases h
        ·cases h
       ·cases h
      split at hq
      ·exact ex hq
      ·split at hq
       ·split at hq
        ·exact ex hq
        ·injection hq with hq;injection hq with _ hq;cases hq
       ·injection hq with hq;injection hq with _ hq;cases hq
       ·cases hq
     | false=>exact hob oz hoz hqq ⟨c,n,x,v⟩ (by simp [withRd]) hzc
    rw [hq']
    exact hvs
end front
end Go.Ab
