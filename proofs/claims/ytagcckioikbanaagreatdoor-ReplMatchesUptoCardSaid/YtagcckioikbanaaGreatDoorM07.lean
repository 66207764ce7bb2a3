/- Part 7 of the proof. -/
import Derived.Test.YtagcckioikbanaaGreatDoorM06
set_option linter.unusedVariables false
set_option linter.unusedSimpArgs false
namespace Go.Ab
variable {P:Program} {φ:Phi} {σ:Sig} {H:z0B} {w:World}
inductive AOp where
 | i (op:IOp)
 | callF (f:FuncId)
 | callV
 | panic
 | next
structure IOper where
 dst:Option Nat
 op:AOp
 args:List Arg
 guard:Option (Nat × Bool)
 res:Option Nat
def z6P (env:Env) (dst:Option Nat) (v:AV):Env :=
 match dst with
 | some d=>env.set d v
 | none=>env
def hasBody (P:Program) (f:FuncId):Bool :=
 match P.funcs[f]? with
 | some fn=>fn.body.isSome
 | none=>false
def z6F (P:Program):Prop:=∀ (f:Nat) (fn:Func),P.funcs[f]? =some fn→(fn.name == "runtime.NumGoroutine")=false
def zNg (dst:Option Nat) (env:Env) (K:Env→z0B→Prop) (Qp:Env→AV→z0B→Prop):z2U
 | .ret v,H=>K (z6P env dst v) H
 | .panic v,H=>Qp env v H
def z3V (P:Program) (o:IOper) (r:Nat) (env:Env) (H:z0B) (K:Env→z0B→Prop) (Qp:Env→AV→z0B→Prop):Prop :=
 match o.op with
 | .i op=>match z5a op (o.args.map (aev env)) H r with
  | some (v,H')=>K (z6P env o.dst v) H'
  | none=>False
 | .callF f=>z0D P f (o.args.map (aev env)) H (zNg o.dst env K Qp)
 | .callV=>match o.args.map (aev env) with
  | .clo (.func f) fs cs::vs=>hasBody P f=true∧z0D P f (fs++vs++cs) H (zNg o.dst env K Qp)
  | _=>False
 | .panic=>match o.args.map (aev env) with
  | [.iface t v]=>Qp env (.iface t v) H
  | _=>False
 | .next=>match zGN (o.args.map (aev env)) H with
  | some l=>∀ x∈l,K (z6P env o.dst x.1) x.2
  | none=>False
def vop (P:Program) (o:IOper) (r:Nat) (env:Env) (H:z0B) (K:Env→z0B→Prop) (Qp:Env→AV→z0B→Prop):Prop :=
 match o.guard with
 | none=>z3V P o r env H K Qp
 | some (g,want)=>match env.get g with
  | .bool b=>if b=want then z3V P o r env H K Qp else K (z6P env o.dst (.tuple [])) H
  | .tuple []=>K (z6P env o.dst (.tuple [])) H
  | _=>False
def cOp (P:Program) (o:Oper):Option (AOp × List Operand) :=
 match cD P o with
 | some (d,xs)=>some (.i (.d d),xs)
 | none=>match cM P o with
  | some (m,xs)=>some (.i (.m m),xs)
  | none=>match cN P o with
   | some (m,xs)=>some (.i (.n m),xs)
   | none=>match cE P o with
    | some (m,xs)=>some (.i (.e m),xs)
    | none=>match o.op with
     | .call { callee:=.value (.func f),args,.. }=>if hasBody P f then some (.callF f,args.toList) else none
     | .call { callee:=.value f,args,.. }=>some (.callV,f::args.toList)
     | .panic x=>some (.panic,[x])
     | .next it false=>some (.next,[it])
     | _=>none
def zQj (ops:Array Oper) (o:Oper):Option (Option (Nat × Bool)) :=
 match o.guard with
 | none=>some none
 | some (j,want)=>match (ops[j]?).bind (·.dst) with
  | some t=>some (some (t,want))
  | none=>none
def zGn (P:Program) (ops:Array Oper) (o:Oper):Option IOper :=
 match cOp P o,zQj ops o with
 | some (op,xs),some g=>match z9M xs with
  | some as=>some { dst:=o.dst,op,args:=as,guard:=g,res:=none }
  | none=>none
 | _,_=>none
theorem z2w {env:Env} {a:Act} {dst:Option Nat} {v:AV} {c:Value} (er:ERel φ σ env a.tmps) (hv:VRel φ σ v c):ERel φ σ (z6P env dst v) (a.put dst c).tmps:=by
 cases dst with
 | none=>exact er
 | some d =>
  simp only [z6P,Act.put,Env.set]
  cases hd:Nat.blt d env.n with
  | false =>
   rw [cond_false]
   have:¬ d<a.tmps.size:=by rw [←er.size,←lDH,hd];simp
   rw [Array.setIfInBounds_eq_of_size_le (by omega)]
   exact er
  | true =>
   have hlt:d<env.n:=by rw [←lDH];exact hd
   rw [cond_true]
   refine ⟨by simp [er.size],fun i=>?_⟩
   simp only [lAR,lCR]
   cases e:Nat.beq d i with
   | true =>
    have:=lAY e
    subst this
    rw [if_pos rfl,if_pos (by rw [←er.size];exact hlt)]
    exact hv
   | false =>
    rw [if_neg (Nat.ne_of_beq_eq_false e),←lAR]
    exact er.get i
theorem z1L (a:Act) (dst:Option Nat) (c:Value):(a.put dst c).defers=a.defers:=by cases dst<;>rfl
theorem zJQ {env:Env} {a:Act} {ops:Array Oper} {o:Oper} {j:Nat} {t:Nat} {b want:Bool} (er:ERel φ σ env a.tmps) (hg:o.guard=some (j,want))
  (ht:(ops[j]?).bind (·.dst)=some t) (hb:env.get t=.bool b):Region.wanted o (yielded ops a.tmps)=(b==want):=by
 have h:=er.get t
 rw [hb] at h
 generalize hq:a.tmps.getD t undef=q at h
 cases h
 have hlt':t<a.tmps.size:=by
  rcases lBB t a.tmps.size with h | h
  ·exact h
  ·simp [Array.getD,Nat.not_lt.2 h,undef] at hq
 have:a.tmps[t]? =some (.bool b):=by rw [getD_some hlt',hq]
 simp [Region.wanted,hg,yielded,ht,this]
theorem zDr:VRel φ σ (.tuple []) undef:=.tuple _ _ rfl fun i=>by simpa using VRel.top _
theorem zDq {env:Env} {a:Act} {ops:Array Oper} {o:Oper} {j:Nat} {t:Nat} {want:Bool} (er:ERel φ σ env a.tmps) (hg:o.guard=some (j,want))
  (ht:(ops[j]?).bind (·.dst)=some t) (hb:env.get t=.tuple []):Region.wanted o (yielded ops a.tmps)=false:=by
 have h:=er.get t
 rw [hb] at h
 generalize hq:a.tmps.getD t undef=q at h
 cases h with
 | tuple _ cs hl hr =>
  have:(a.tmps[t]?)=none∨a.tmps[t]? =some (.tuple cs):=by
   rcases lBB t a.tmps.size with h | h
   ·right;rw [getD_some h,hq]
   ·left;exact lCX h
  rcases this with h | h<;>simp [Region.wanted,hg,yielded,ht,h]
theorem zFS {env:Env} {a:Act} {xs:List Operand} {as:List Arg} (er:ERel φ σ env a.tmps) (h:z9M xs=some as) :
  (as.map (aev env)).length=xs.length∧∀ i,VRel φ σ ((as.map (aev env)).getD i .top) ((xs.map a.eval).getD i undef):=by
 have:=zFe er h
 exact ⟨by rw [lAE];exact this.1,this.2⟩
theorem zHw (l:List Value) (i:Nat):l.toArray.getD i undef=l.getD i undef:=by
 simp [lAR]
theorem z9j {n r:Nat} {o:Oper} {op:AOp} {xs:List Operand} {as:List Arg} {g:Option (Nat × Bool)} {res:Option Nat} {env:Env} {a:Act}
  {K:Env→z0B→Prop} {Qp:Env→AV→z0B→Prop} {Kc:Act→World→Prop} {Qc:Exit→Act→World→Prop} (hnn:z6F P)
  (hc:cOp P o=some (op,xs)) (ha:z9M xs=some as) (hr:HRel φ σ H w) (er:ERel φ σ env a.tmps) (hf:z8t H r) (hn:n≤r)
  (hv:z3V P { dst:=o.dst,op,args:=as,guard:=g,res } r env H K Qp)
  (hK:∀ φ' σ' env' H' a' w',Step φ σ H w φ' σ' H' w'→z1T n H H'→ERel φ' σ' env' a'.tmps→a'.defers=a.defers→K env' H'→Kc a' w')
  (hP:∀ φ' σ' H' w' v c,Step φ σ H w φ' σ' H' w'→z1T n H H'→VRel φ' σ' v c→Qp env v H'→Qc (.panic [{ v:=c,recovered:=false }]) a w') :
  o.wp P a w Kc Qc:=by
 obtain ⟨hl,hvs⟩:=zFS er ha
 have back:∀ (f:FuncId) (args:List AV) (cargs:Array Value),z8N φ σ args cargs→z0D P f args H (zNg o.dst env K Qp) →
   Calls P f cargs w fun
    | .returned v,w''=>Kc (a.put o.dst v) w''
    | .panicked chain,w''=>Qc (.panic chain) a w''
    | .outgrown,_=>LetsOut Qc:=by
  intro f args cargs hargs hcall
  refine (hcall φ σ cargs w hr hargs).mono ?_
  rintro e w' ⟨φ',σ',x,H',s,kp,rr,q⟩
  cases x with
  | ret v =>
   obtain ⟨c,rfl,hvc⟩:=rr
   exact hK φ' σ' _ H' _ w' s kp.n (z2w (er.mono s.extP s.extS) hvc) (z1L _ _ _) q
  | panic v =>
   obtain ⟨c,rfl,hvc⟩:=rr
   exact hP φ' σ' H' w' v c s kp.n hvc q
 have callf:∀ (f:FuncId) (args:Array Value),hasBody P f=true→(callFunc f args).run P w=.ok (.enter f args) w:=by
  intro f args hb
  unfold hasBody at hb
  split at hb
  ·rename_i fn hfn
   have h1:=hnn f fn hfn
   have h2:fn.body.isNone=false:=by cases hq:fn.body<;>simp_all
   simp only [callFunc,Sem.run_bind,run_program,Result.andThen_ok,hfn,h1,h2,lAV,if_false,Sem.run_pure]
  ·cases hb
 unfold cOp at hc
 split at hc
 ·rename_i d ys hd
  injection hc with hc;injection hc with h1 h2;subst h1;subst h2
  simp only [z3V,z5a] at hv
  split at hv
  ·rename_i v H' hs
   split at hs
   ·rename_i v' hv'
    injection hs with hs;injection hs with h1 h2;subst h1;subst h2
    obtain ⟨c,e1,e2⟩:=zPx (w:=w) hd hl hvs hv'
    unfold Oper.wp
    rw [e1,Oper.upon_value]
    exact hK φ σ _ H _ w (.refl hr) (.refl _ _) (z2w er e2) (z1L _ _ _) hv
   ·cases hs
  ·exact hv.elim
 ·split at hc
  ·rename_i m ys hm
   injection hc with hc;injection hc with h1 h2;subst h1;subst h2
   simp only [z3V,z5a] at hv
   split at hv
   ·rename_i v H' hs
    obtain ⟨φ',w',c,e1,e2,e3,e4⟩:=zPv (w:=w) hm hr hf hn hl hvs hs
    unfold Oper.wp
    rcases e1 with e1 | ⟨e1,rfl⟩
    ·rw [e1,Oper.upon_value]
     exact hK φ' σ _ H' _ w' e2 e3 (z2w (er.mono e2.extP e2.extS) e4) (z1L _ _ _) hv
    ·rw [e1,Oper.upon_skip]
     exact hK φ' σ _ H' _ w' e2 e3 (z2w (er.mono e2.extP e2.extS) e4) (z1L _ _ _) hv
   ·exact hv.elim
  ·split at hc
   ·rename_i m ys hm
    injection hc with hc;injection hc with h1 h2;subst h1;subst h2
    simp only [z3V,z5a] at hv
    split at hv
    ·rename_i v H' hs
     obtain ⟨φ',w',c,e1,e2,e3,e4⟩:=zPu (w:=w) hm hr hf hn hl hvs hs
     unfold Oper.wp
     rcases e1 with e1 | ⟨e1,rfl⟩
     ·rw [e1,Oper.upon_value]
      exact hK φ' σ _ H' _ w' e2 e3 (z2w (er.mono e2.extP e2.extS) e4) (z1L _ _ _) hv
     ·rw [e1,Oper.upon_skip]
      exact hK φ' σ _ H' _ w' e2 e3 (z2w (er.mono e2.extP e2.extS) e4) (z1L _ _ _) hv
    ·exact hv.elim
   split at hc
   ·rename_i m ys hm
    injection hc with hc;injection hc with h1 h2;subst h1;subst h2
    simp only [z3V,z5a] at hv
    split at hv
    ·rename_i v H' hs
     obtain ⟨φ',w',c,e1,e2,e3,e4⟩:=zPw (w:=w) hm hr hf hn hl hvs hs
     unfold Oper.wp
     rcases e1 with e1 | ⟨e1,rfl⟩
     ·rw [e1,Oper.upon_value]
      exact hK φ' σ _ H' _ w' e2 e3 (z2w (er.mono e2.extP e2.extS) e4) (z1L _ _ _) hv
     ·rw [e1,Oper.upon_skip]
      exact hK φ' σ _ H' _ w' e2 e3 (z2w (er.mono e2.extP e2.extS) e4) (z1L _ _ _) hv
    ·exact hv.elim
   split at hc
   ·rename_i f args at_ ho
    split at hc
    ·rename_i hb
     injection hc with hc;injection hc with h1 h2;subst h1;subst h2
     simp only [z3V] at hv
     unfold Oper.wp
     have e:(execOp a.eval o).run P w=.ok (.enter f (args.map a.eval)) w:=by
      simp only [execOp,ho,resolve,Deferred.ofValue,Act.eval,Sem.run_bind,Sem.run_pure,Result.andThen_ok,invoke,Array.empty_append,Array.append_empty]
      exact callf f _ hb
     rw [e,Oper.upon_enter]
     refine back f _ _ ⟨by simpa using hl,fun i=>?_⟩ hv
     have:=hvs i
     rw [←z1S,lDP];exact this
    ·cases hc
   ·rename_i f args at_ hne ho
    injection hc with hc;injection hc with h1 h2;subst h1;subst h2
    simp only [z3V] at hv
    split at hv
    ·rename_i g fs cs vs hvals
     obtain ⟨hb,hv⟩:=hv
     rw [hvals] at hvs hl
     have hfv:VRel φ σ (.clo (.func g) fs cs) (a.eval f):=by simpa using hvs 0
     generalize hfq:a.eval f=fq at hfv
     cases hfv with
     | clo _ _ _ fs' cs' h1 h2 r1 r2 =>
      have e:(execOp a.eval o).run P w=.ok (.enter g (fs'++args.map a.eval++cs')) w:=by
       simp only [execOp,ho,resolve,Deferred.ofValue,hfq,Sem.run_bind,Sem.run_pure,Result.andThen_ok,invoke]
       exact callf g _ hb
      unfold Oper.wp
      rw [e,Oper.upon_enter]
      have k1:z8N φ σ vs (args.map a.eval):=by
       refine ⟨by simpa using hl,fun i=>?_⟩
       have:=hvs (i+1)
       rw [←z1S,lDP];simpa using this
      have k2:=z5P (z5P ⟨h1,r1⟩ k1) ⟨h2,r2⟩
      exact back g _ _ ⟨k2.1,k2.2⟩ hv
    ·exact hv.elim
   ·rename_i x ho
    injection hc with hc;injection hc with h1 h2;subst h1;subst h2
    simp only [z3V] at hv
    split at hv
    ·rename_i t v hvals
     rw [hvals] at hvs
     have hx:VRel φ σ (.iface t v) (a.eval x):=by simpa using hvs 0
     generalize hxq:a.eval x=xq at hx
     cases hx with
     | iface _ _ c hcv =>
      unfold Oper.wp
      have e:(execOp a.eval o).run P w=.halt (.panic (.iface t c)) w:=by
       simp [execOp,ho,Instr.panic,hxq]
      rw [e,Oper.upon_panic]
      exact hP φ σ H w _ _ (.refl hr) (.refl _ _) (.iface _ _ _ hcv) hv
    ·exact hv.elim
   ·rename_i it ho
    injection hc with hc;injection hc with h1 h2;subst h1;subst h2
    simp only [z3V] at hv
    split at hv
    ·rename_i l hn'
     obtain ⟨u,hu,hx⟩:=z0b hl hvs
     rw [hu] at hn'
     obtain ⟨v,H',hm,w',cv,e1,e2,e3,e4⟩:=zPV (P:=P) (n:=n) (ty:=o.type) hr hx hn'
     unfold Oper.wp
     have e:(execOp a.eval o).run P w=.ok (.value cv) w':=by
      simp only [execOp,ho]
      rw [Sem.run_bind,e1];rfl
     rw [e,Oper.upon_value]
     exact hK φ σ _ H' _ w' e2 e3 (z2w (er.mono e2.extP e2.extS) e4) (z1L _ _ _) (hv _ hm)
    ·exact hv.elim
   ·cases hc
theorem zDp {n r:Nat} {ops:Array Oper} {i:Nat} {o:Oper} {io:IOper} {env:Env} {a:Act}
  {K:Env→z0B→Prop} {Qp:Env→AV→z0B→Prop} {Kc:Act→World→Prop} {Qc:Exit→Act→World→Prop} (hnn:z6F P)
  (ho:ops[i]? =some o) (hc:zGn P ops o=some io) (hr:HRel φ σ H w) (er:ERel φ σ env a.tmps) (hf:z8t H r) (hn:n≤r) (hv:vop P { io with res:=none } r env H K Qp)
  (hK:∀ φ' σ' env' H' a' w',Step φ σ H w φ' σ' H' w'→z1T n H H'→ERel φ' σ' env' a'.tmps→a'.defers=a.defers→K env' H'→Kc a' w')
  (hP:∀ φ' σ' H' w' v c,Step φ σ H w φ' σ' H' w'→z1T n H H'→VRel φ' σ' v c→Qp env v H'→Qc (.panic [{ v:=c,recovered:=false }]) a w') :
  wpOp P ops Qc i Kc a w:=by
 unfold zGn at hc
 split at hc
 case h_2=>cases hc
 rename_i op xs g hop hg
 split at hc
 case h_2=>cases hc
 rename_i as ha
 injection hc with hc;subst hc
 unfold wpOp
 rw [ho]
 simp only
 unfold zQj at hg
 unfold vop at hv
 split at hg
 ·rename_i hno
  injection hg with hg;subst hg
  have:Region.wanted o (yielded ops a.tmps)=true:=by simp [Region.wanted,hno]
  rw [if_pos this]
  exact .inl (z9j hnn hop ha hr er hf hn hv hK hP)
 ·rename_i j want hgo
  split at hg
  ·rename_i t ht
   injection hg with hg;subst hg
   simp only at hv
   split at hv
   ·rename_i b hb
    have hw:=zJQ er hgo ht hb
    split at hv
    ·rename_i e
     rw [if_pos (by rw [hw];simpa using e)]
     exact .inl (z9j hnn hop ha hr er hf hn hv hK hP)
    ·rename_i e
     rw [if_neg (by rw [hw];simpa using e)]
     exact hK φ σ _ H _ w (.refl hr) (.refl _ _) (z2w er zDr) (z1L _ _ _) hv
   ·rename_i hb
    rw [if_neg (by rw [zDq er hgo ht hb];simp)]
    exact hK φ σ _ H _ w (.refl hr) (.refl _ _) (z2w er zDr) (z1L _ _ _) hv
   ·exact hv.elim
  ·cases hg
def zSg (P:Program):List IOper→Env→z0B→(Env→z0B→Prop)→(Env→AV→z0B→Prop)→Prop
 | [],env,H,K,_=>K env H
 | o::os,env,H,K,Qp=>vop P o H.length env H (fun e H'=>zSg P os e H' K Qp) Qp
def z8q (P:Program) (ops:Array Oper):List Oper→Option (List IOper)
 | []=>some []
 | o::os=>match zGn P ops o,z8q P ops os with
  | some x,some xs=>some (x::xs)
  | _,_=>none
theorem zFd {ops:Array Oper} {o:Oper} {io:IOper} (h:zGn P ops o=some io):{ io with res:=none }=io:=by
 unfold zGn at h
 split at h
 ·split at h
  ·injection h with h;subst h;rfl
  ·cases h
 ·cases h
theorem z8S {n:Nat} {ops:Array Oper} {K:Env→z0B→Prop} {Qp:Env→AV→z0B→Prop} {Qc:Exit→Act→World→Prop} (hnn:z6F P) (ds:List Deferred)
  (φ₀:Phi) (σ₀:Sig) (H₀:z0B) (w₀:World) (hn:n=H₀.length)
  (hK:∀ φ' σ' env' H' a' w',Step φ₀ σ₀ H₀ w₀ φ' σ' H' w'→z1T n H₀ H'→ERel φ' σ' env' a'.tmps→a'.defers=ds→K env' H'→Qc .normal a' w')
  (hP:∀ φ' σ' env' H' a' w' v c,Step φ₀ σ₀ H₀ w₀ φ' σ' H' w'→z1T n H₀ H'→ERel φ' σ' env' a'.tmps→a'.defers=ds→VRel φ' σ' v c→Qp env' v H'→Qc (.panic [{ v:=c,recovered:=false }]) a' w') :
  ∀ (os:List Oper) (ios:List IOper) (k:Nat),(∀ j,os[j]? =ops[k+j]?)→z8q P ops os=some ios →
   ∀ φ σ env H (a:Act) w,Step φ₀ σ₀ H₀ w₀ φ σ H w→z1T n H₀ H→ERel φ σ env a.tmps→a.defers=ds→zSg P ios env H K Qp →
    wpOps P ops Qc (List.range' k os.length) a w
 | [],ios,k,_,hc,φ,σ,env,H,a,w,s,kp,er,hd,hv=>by
  simp only [z8q] at hc;injection hc with hc;subst hc
  exact hK φ σ env H a w s kp er hd hv
 | o::os,ios,k,hk,hc,φ,σ,env,H,a,w,s,kp,er,hd,hv=>by
  simp only [z8q] at hc
  split at hc
  case h_2=>cases hc
  rename_i x xs hx hxs
  injection hc with hc;subst hc
  simp only [lBE,List.range'_succ]
  rw [wpOps_cons]
  have ho:ops[k]? =some o:=by have:=hk 0;simpa using this.symm
  simp only [zSg] at hv
  refine zDp (n:=n) hnn ho hx s.hrel er (.inl rfl) (by rw [hn];exact kp.1) (by rw [zFd hx];exact hv) ?_ ?_
  ·intro φ' σ' env' H' a' w' s' kp' er' hd' hv'
   exact z8S hnn ds φ₀ σ₀ H₀ w₀ hn hK hP os xs (k+1) (fun j=>by have:=hk (j+1);rw [lBD] at this;rw [this];congr 1;omega) hxs φ' σ' env' H' a' w' (s.trans s') (kp.trans kp') er' (hd'.trans hd) hv'
  ·intro φ' σ' H' w' v c s' kp' hvc hq
   exact hP φ' σ' env H' a w' v c (s.trans s') (kp.trans kp') (er.mono s'.extP s'.extS) hd hvc hq
theorem zKW {id:Nat} {ops:Array Oper} {ios:List IOper} {Q:zJL} {env:Env} (hnn:z6F P) (hc:z8q P ops ops.toList=some ios)
  (hv:zSg P ios env H (fun e H=>Q .normal e H) (fun e v H=>Q (.panic v) e H)):AWP P (.region id ops false) Q env H:=by
 intro φ σ a w hr er
 refine wp_region ?_
 have hlen:List.range ops.size=List.range' 0 ops.toList.length:=by rw [List.range_eq_range'];simp
 rw [hlen]
 have keeps:∀ H',z1T H.length H H'→z3a H H':=by
  intro H' kp
  refine ⟨kp.1,fun i h=>kp.2 i ?_ h⟩
  rcases lBB i H.length with h' | h'
  ·exact h'
  ·simp [h'] at h
 refine z8S hnn a.defers φ σ H w rfl ?_ ?_ ops.toList ios 0 (fun j=>by simp) hc φ σ env H a w (.refl hr) (.refl _ _) er rfl hv
 ·intro φ' σ' env' H' a' w' s kp er' hd hq
  exact ⟨φ',σ',.normal,env',H',s,keeps _ kp,rfl,er',hd,hq⟩
 ·intro φ' σ' env' H' a' w' v c s kp er' hd hvc hq
  exact ⟨φ',σ',.panic v,env',H',s,keeps _ kp,⟨c,rfl,hvc⟩,er',hd,hq⟩
end Go.Ab
