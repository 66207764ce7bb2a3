/- Part 19 of the proof. -/
import Derived.Recover
import Derived.Test.YtagcckioikbanaaGreatDoorM18
set_option linter.unusedVariables false
set_option linter.unusedSimpArgs false
namespace Go.Ab
variable {P:Program} {H:z0B}
def URel (φ:Phi) (σ:Sig):Option AV→FrameMode→Prop
 | none,u=>u=.returning
 | some v,u=>∃ c,u=.panicking [{ v:=c,recovered:=false }]∧VRel φ σ v c
def zRQ:FrameMode→FrameMode
 | .panicking [e]=>.panicking [{ e with recovered:=true }]
 | m=>m
def zCW (P:Program) (g:FuncId) (args:List AV) (H:z0B) (pv:Option AV) (R:Bool→z0B→Prop):Prop :=
 ∀ φ σ (cargs:Array Value) (w:World),HRel φ σ H w→z8N φ σ args cargs→∀ u,URel φ σ pv u →
  CallsD P g cargs u w (fun e u' w'=>∃ φ' σ' H' r,(∃ v,e=.returned v)∧Step φ σ H w φ' σ' H' w'∧z3a H H'∧u'=(if r=true then zRQ u else u)∧R r H')
def zZX (P:Program) (rs:List RV) (g:FuncId) (vs:List AV) (Q:z2U):zJL
 | .normal,env,H=>zCW P g vs H none (fun _ H'=>∃ v,z3T rs env H'=some v∧Q (.ret v) H')
 | .ret,env,H=>zCW P g vs H none (fun _ H'=>∃ v,z3T rs env H'=some v∧Q (.ret v) H')
 | .panic v,env,H=>zCW P g vs H (some v) (fun r H'=>if r=true then ∃ u,z3T rs env H'=some u∧Q (.ret u) H' else ∃ u,u=v∧Q (.panic u) H')
 | _,_,_=>False
theorem zDJ {f:FuncId} {w:World} (hnn:z6F P) (args:Array Value) (hb:hasBody P f=true):(callFunc f args).run P w=.ok (.enter f args) w:=by
 unfold hasBody at hb
 split at hb
 ·rename_i fn hfn
  have h1:=hnn f fn hfn
  have h2:fn.body.isNone=false:=by cases hq:fn.body<;>simp_all
  simp only [callFunc,Sem.run_bind,run_program,Result.andThen_ok,hfn,h1,h2,lAV,if_false,Sem.run_pure]
 ·cases hb
theorem zKQ {env:Env} {φ:Phi} {σ:Sig} {a:Act} {caps:List Operand} {cs:List Arg} (er:ERel φ σ env a.tmps) (h:z9M caps=some cs) :
  z8N φ σ (cs.map (aev env)) (caps.map a.eval).toArray:=by
 obtain ⟨h1,h2⟩:=zFS er h
 exact ⟨by simpa using h1,fun i=>by rw [zHw];exact h2 i⟩
theorem zGt {f g:FuncId} {fn:Func} {c0 cA rest:Code} {o1 o2:Oper} {caps:List Operand} {cs:List Arg} {t id:Nat} {p:Array TypeId} {args:List AV} {rs:List RV} {Q:z2U}
  (hnn:z6F P) (hf:P.funcs[f]? =some fn) (hb:fn.body=some (.seq c0 (.seq cA (.seq (.region id #[o1,o2] false) rest))))
  (e1:o1.op=.makeFunc (.func g) #[] caps.toArray) (e2:o1.dst=some t) (e3:o1.guard=none)
  (e4:o2.op=.defer { callee:=.value (.tmp t),args:=#[],argTypes:=p }) (e5:o2.dst=none) (e6:o2.guard=none)
  (hcap:z9M caps=some cs) (hgb:hasBody P g=true)
  (hc:cRV P fn.results.toList=some rs) (hn:args.length≤fn.ntmps)
  (h:AWP P c0 (AX.then (fun env H=>AWP P cA (AX.then (fun env H=>t<env.n∧AWP P rest (zZX P rs g (cs.map (aev env)) Q) (env.set t (.clo (.func g) [] (cs.map (aev env)))) H) (zKC rs Q)) env H) (zKC rs Q)) (enter fn.ntmps args) H) :
  z0D P f args H Q:=by
 intro φ σ cargs w hr er
 refine calls_of_wp_defers hf hb ?_
 have er':ERel φ σ (enter fn.ntmps args) (cargs++Array.replicate (fn.ntmps-cargs.size) undef):=by
  have hs:=er.1
  refine ⟨by simp [enter];omega,fun i=>?_⟩
  simp only [enter,z7G,Nat.zero_le,if_true,lEA]
  rw [lAR]
  by_cases hi:i<args.length
  ·rw [lB8 (by omega),←lAR]
   exact er.2 i
  ·rw [lAB,lBG (by omega)]
   exact .top _
 have early:∀ (x:AX) (e:Exit) (a':Act) (φ':Phi) (σ':Sig) (env':Env) (H':z0B) (w':World),x≠.normal→Step φ σ H w φ' σ' H' w'→z3a H H'→XRel φ' σ' x e→ERel φ' σ' env' a'.tmps→a'.defers=[]→zKC rs Q x env' H' →
   bodyPostD P fn (fun e w'=>∃ φ' σ' r H',Step φ σ H w φ' σ' H' w'∧z3a H H'∧zZd φ' σ' r e∧Q r H') e a' w':=by
  intro x e a' φ' σ' env' H' w' hx s kp xr er₂ hd q
  cases x with
  | normal=>exact absurd rfl hx
  | ret =>
   cases xr
   obtain ⟨v,hv,q⟩:=q
   obtain ⟨cv,h1,h2⟩:=z3d (P:=P) (fn:=fn) s.hrel er₂ hc hv
   show Leaves P fn a'.tmps _ a'.defers .returning w'
   rw [hd]
   exact ⟨cv,h1,φ',σ',.ret v,H',s,kp,⟨cv,rfl,h2⟩,q⟩
  | panic v =>
   obtain ⟨cv,rfl,h2⟩:=xr
   show Leaves P fn a'.tmps _ a'.defers (.panicking _) w'
   rw [hd]
   exact ⟨φ',σ',.panic v,H',s,kp,⟨cv,rfl,h2⟩,q⟩
  | exit id=>exact q.elim
  | goto l=>exact q.elim
 refine wp_seq (wp_mono (h φ σ { tmps:=cargs++Array.replicate (fn.ntmps-cargs.size) undef,defers:=[] } w hr er') ?_)
 rintro e a₁ w₁ ⟨φ₁,σ₁,x,env₁,H₁,s₁,kp₁,xr₁,er₁,hd₁,q₁⟩
 by_cases hx:x=.normal
 case neg =>
  have hfp:zKC rs Q x env₁ H₁:=by cases x<;>first | exact q₁ | exact absurd rfl hx
  have:=early x e a₁ φ₁ σ₁ env₁ H₁ w₁ hx s₁ kp₁ xr₁ er₁ hd₁ hfp
  cases x with
  | normal=>exact absurd rfl hx
  | exit id=>cases xr₁;exact this
  | goto l=>cases xr₁;exact this
  | ret=>cases xr₁;exact this
  | panic v=>obtain ⟨c,rfl,hv⟩:=xr₁;exact this
 subst hx
 cases xr₁
 refine wp_seq (wp_mono (q₁ φ₁ σ₁ a₁ w₁ s₁.hrel er₁) ?_)
 rintro e a₂ w₂ ⟨φ₂,σ₂,x,env₂,H₂,s₂,kp₂,xr₂,er₂,hd₂,q₂⟩
 have hd₂':a₂.defers=[]:=hd₂.trans hd₁
 by_cases hx:x=.normal
 case neg =>
  have hfp:zKC rs Q x env₂ H₂:=by cases x<;>first | exact q₂ | exact absurd rfl hx
  have:=early x e a₂ φ₂ σ₂ env₂ H₂ w₂ hx (s₁.trans s₂) (kp₁.trans kp₂) xr₂ er₂ hd₂' hfp
  cases x with
  | normal=>exact absurd rfl hx
  | exit id=>cases xr₂;exact this
  | goto l=>cases xr₂;exact this
  | ret=>cases xr₂;exact this
  | panic v=>obtain ⟨c,rfl,hv⟩:=xr₂;exact this
 subst hx
 cases xr₂
 have s:=s₁.trans s₂
 have kp:=kp₁.trans kp₂
 have hvs:=zKQ er₂ hcap
 let clo:Value:=.func (.func g) #[] (caps.map a₂.eval).toArray
 let d:Deferred:={ target:=.fn (.func g) (caps.map a₂.eval).toArray,args:=#[] }
 have hsz:t<a₂.tmps.size:=by rw [←er₂.size];exact q₂.1
 refine wp_seq (wp_region_list ?_)
 have w1:Region.wanted o1 (yielded #[o1,o2] a₂.tmps)=true:=by simp [Region.wanted,e3]
 have x1:(execOp a₂.eval o1).run P w₂=.ok (.value clo) w₂:=by
  simp [execOp,e1,clo,Instr.makeFunc]
 have w2:Region.wanted o2 (yielded #[o1,o2] (a₂.put o1.dst clo).tmps)=true:=by simp [Region.wanted,e6]
 have x2:(execOp (a₂.put o1.dst clo).eval o2).run P w₂=.ok (.defer d) w₂:=by
  have e:(a₂.put o1.dst clo).eval (.tmp t)=clo:=by
   simp only [e2,Act.put,Act.eval]
   simp [lAR,hsz]
  simp only [execOp,e4,resolve,e,Deferred.ofValue,clo,d]
  simp
 simp only [wpList]
 rw [if_pos w1]
 refine .inl ?_
 unfold Oper.wp
 rw [x1,Oper.upon_value,if_pos w2]
 refine .inl ?_
 rw [x2,Oper.upon_defer]
 have er₃:ERel φ₂ σ₂ (env₂.set t (.clo (.func g) [] (cs.map (aev env₂)))) (a₂.put o1.dst clo).tmps:=by
  rw [e2]
  exact z2w (dst:=some t) er₂ (.clo _ _ _ _ _ rfl hvs.1 (fun i=>by simpa using VRel.top _) hvs.2)
 have hd₃:({ a₂.put o1.dst clo with defers:=d::(a₂.put o1.dst clo).defers }:Act).defers=[d]:=by
  show d::(a₂.put o1.dst clo).defers=[d]
  rw [z1L,hd₂']
 rw [e5]
 show Code.wp P rest _ _ _
 refine wp_mono (q₂.2 φ₂ σ₂ { a₂.put o1.dst clo with defers:=d::(a₂.put o1.dst clo).defers } w₂ s.hrel er₃) ?_
 rintro e a₄ w₄ ⟨φ₄,σ₄,x,env₄,H₄,s₄,kp₄,xr₄,er₄,hd₄,q₄⟩
 have hd₄':a₄.defers=[d]:=hd₄.trans hd₃
 have s':=s.trans s₄
 have kp':=kp.trans kp₄
 have hvs':z8N φ₄ σ₄ (cs.map (aev env₂)) (caps.map a₂.eval).toArray:=⟨hvs.1,fun i=>(hvs.2 i).mono s₄.extP s₄.extS⟩
 have hinv:∀ w:World,(invoke (.fn (.func g) (caps.map a₂.eval).toArray) #[]).run P w=.ok (.enter g (caps.map a₂.eval).toArray) w:=by
  intro w
  simp only [invoke]
  rw [zDJ hnn _ hgb]
  simp
 have normal:zCW P g (cs.map (aev env₂)) H₄ none (fun _ H'=>∃ v,z3T rs env₄ H'=some v∧Q (.ret v) H') →
   Leaves P fn a₄.tmps (fun e w'=>∃ φ' σ' r H',Step φ σ H w φ' σ' H' w'∧z3a H H'∧zZd φ' σ' r e∧Q r H') [d] .returning w₄:=by
  intro hq
  refine leaves_cons (by simp) (hinv w₄) ((hq φ₄ σ₄ _ w₄ s₄.hrel hvs' .returning rfl).mono ?_)
  rintro e u' w₅ ⟨φ₅,σ₅,H₅,r,⟨v,rfl⟩,s₅,kp₅,rfl,u,hu,q⟩
  have er₅:=er₄.mono s₅.extP s₅.extS
  obtain ⟨cv,h1,h2⟩:=z3d (P:=P) (fn:=fn) s₅.hrel er₅ hc hu
  have:settle (if r=true then zRQ .returning else .returning)=.returning:=by cases r<;>rfl
  show Leaves P fn _ _ [] (settle _) w₅
  rw [this]
  exact ⟨cv,h1,φ₅,σ₅,.ret u,H₅,s'.trans s₅,kp'.trans kp₅,⟨cv,rfl,h2⟩,q⟩
 cases x with
 | normal=>cases xr₄;show Leaves P fn a₄.tmps _ a₄.defers .returning w₄;rw [hd₄'];exact normal q₄
 | ret=>cases xr₄;show Leaves P fn a₄.tmps _ a₄.defers .returning w₄;rw [hd₄'];exact normal q₄
 | exit id=>exact q₄.elim
 | goto l=>exact q₄.elim
 | panic v =>
  obtain ⟨c,rfl,hv⟩:=xr₄
  show Leaves P fn a₄.tmps _ a₄.defers (.panicking [{ v:=c,recovered:=false }]) w₄
  rw [hd₄']
  refine leaves_cons (by simp) (hinv w₄) ((q₄ φ₄ σ₄ _ w₄ s₄.hrel hvs' (.panicking [{ v:=c,recovered:=false }]) ⟨c,rfl,hv⟩).mono ?_)
  rintro e u' w₅ ⟨φ₅,σ₅,H₅,r,⟨_,rfl⟩,s₅,kp₅,rfl,q⟩
  have er₅:=er₄.mono s₅.extP s₅.extS
  cases r with
  | true =>
   obtain ⟨u,hu,q⟩:=q
   obtain ⟨cv,h1,h2⟩:=z3d (P:=P) (fn:=fn) s₅.hrel er₅ hc hu
   have:settle (if true=true then zRQ (.panicking [{ v:=c,recovered:=false }]) else .panicking [{ v:=c,recovered:=false }])=.returning:=by rfl
   show Leaves P fn _ _ [] (settle _) w₅
   rw [this]
   exact ⟨cv,h1,φ₅,σ₅,.ret u,H₅,s'.trans s₅,kp'.trans kp₅,⟨cv,rfl,h2⟩,q⟩
  | false =>
   obtain ⟨u,rfl,q⟩:=q
   have:settle (if false=true then zRQ (.panicking [{ v:=c,recovered:=false }]) else .panicking [{ v:=c,recovered:=false }])=.panicking [{ v:=c,recovered:=false }]:=by rfl
   show Leaves P fn _ _ [] (settle _) w₅
   rw [this]
   exact ⟨φ₅,σ₅,.panic u,H₅,s'.trans s₅,kp'.trans kp₅,⟨c,rfl,hv.mono s₅.extP s₅.extS⟩,q⟩
def pvV:Option AV→AV
 | none=>.niliface
 | some v=>v
def pvR:Option AV→Bool
 | none=>false
 | some _=>true
theorem zDU {g:FuncId} {fn:Func} {rest:Code} {o:Oper} {os:List Oper} {ios:List IOper} {t id:Nat} {ops:Array Oper} {args:List AV} {pv:Option AV} {R:Bool→z0B→Prop}
  (hnn:z6F P) (hf:P.funcs[g]? =some fn) (hb:fn.body=some (.seq (.region id ops false) rest)) (hops:ops.toList=o::os)
  (e1:∃ p,o.op=.call { callee:=.builtin .recover,args:=#[],argTypes:=p }) (e2:o.dst=some t) (e3:o.guard=none) (hio:z8q P ops os=some ios) (hres:fn.results = #[])
  (hn:args.length≤fn.ntmps) (ht:t<fn.ntmps)
  (h:zSg P ios ((enter fn.ntmps args).set t (pvV pv)) H
   (fun env H=>AWP P rest (fun x _ H=>(x=.normal∨x=.ret)∧R (pvR pv) H) env H) (fun _ _ _=>False)) :
  zCW P g args H pv R:=by
 intro φ σ cargs w hr er u hu
 obtain ⟨p,e1⟩:=e1
 refine callsD_of_wpS hf hb fun c₀ cs hc=>?_
 have er':ERel φ σ (enter fn.ntmps args) (cargs++Array.replicate (fn.ntmps-cargs.size) undef):=by
  have hs:=er.1
  refine ⟨by simp [enter];omega,fun i=>?_⟩
  simp only [enter,z7G,Nat.zero_le,if_true,lEA]
  rw [lAR]
  by_cases hi:i<args.length
  ·rw [lB8 (by omega),←lAR]
   exact er.2 i
  ·rw [lAB,lBG (by omega)]
   exact .top _
 let a:Act:={ tmps:=cargs++Array.replicate (fn.ntmps-cargs.size) undef,defers:=[] }
 obtain ⟨x,cs',hrec,hx,hcs⟩:∃ x cs',((recoverD (c₀::cs)=some (x,cs'))∨(recoverD (c₀::cs)=none∧x=.nilIface∧cs'=c₀::cs)) ∧
   VRel φ σ (pvV pv) x∧cs' = { c₀ with mode:=if (pvR pv)=true then zRQ u else u }::cs:=by
  cases pv with
  | none =>
   cases hu
   refine ⟨.nilIface,c₀::cs,.inr ⟨?_,rfl,rfl⟩,.niliface,?_⟩
   ·simp [recoverD,hc]
   ·simp only [pvR,lAV,if_false];rw [←hc]
  | some v =>
   obtain ⟨c,rfl,hv⟩:=hu
   exact ⟨c,_,.inl (by simp only [recoverD,hc];rfl),hv,by simp only [pvR,if_true,zRQ]⟩
 have hop:(execOp a.eval o).run P w=.ok .recover w:=by
  simp [execOp,e1,resolve,invoke,builtin]
 have hwant:Region.wanted o (yielded ops a.tmps)=true:=by simp [Region.wanted,e3]
 have h0:ops[0]? =some o:=by rw [←Array.getElem?_toList,hops];rfl
 have hlen:List.range ops.size=0::List.range' 1 os.length:=by
  rw [←lC7,hops,lBE,List.range_eq_range',List.range'_succ]
 have er₁:ERel φ σ ((enter fn.ntmps args).set t (pvV pv)) (a.put o.dst x).tmps:=by
  rw [e2];exact z2w (dst:=some t) er' hx
 have hops':wpOps P ops (Exit.then (fun a₂ w₂=>Code.wp P rest (fun e a' w'=>∃ φ' σ' H',Step φ σ H w φ' σ' H' w'∧z3a H H'∧a'.defers=[]∧(e=.normal∨e=.ret)∧R (pvR pv) H') a₂ w₂) (fun _ _ _=>False))
   (List.range' 1 os.length) (a.put o.dst x) w:=by
  have keeps:∀ H',z1T H.length H H'→z3a H H':=by
   intro H' kp
   refine ⟨kp.1,fun i h=>kp.2 i ?_ h⟩
   rcases lBB i H.length with h' | h'
   ·exact h'
   ·simp [h'] at h
  refine z8S hnn [] φ σ H w rfl ?_ ?_ os ios 1 (fun j=>?_) hio φ σ _ H (a.put o.dst x) w (.refl hr) (.refl _ _) er₁ (z1L _ _ _) h
  ·intro φ' σ' env' H' a' w' s kp er' hd hq
   refine wp_mono (hq φ' σ' a' w' s.hrel er') ?_
   rintro e a₃ w₃ ⟨φ₃,σ₃,y,env₃,H₃,s₃,kp₃,xr,er₃,hd₃,hy,q⟩
   refine ⟨φ₃,σ₃,H₃,s.trans s₃,(keeps _ kp).trans kp₃,hd₃.trans hd,?_,q⟩
   rcases hy with rfl | rfl
   ·cases xr;exact .inl rfl
   ·cases xr;exact .inr rfl
  ·intro φ' σ' env' H' a' w' v c s kp er' hd hvc hq
   exact hq.elim
  ·rw [←Array.getElem?_toList,hops,Nat.add_comm];rfl
 refine wpS_seq ?_
 intro b k hb' hro
 have hk:(b.at a (.inRegion ops (0::List.range' 1 os.length)::k)).kind=.deferred:=hb'
 have htr:=tryRecover_deferred hk (c₀::cs)
 have hg:=stepG_op (P:=P) (b:=b) (k:=k) (cs:=c₀::cs) (w:=w) (rest:=List.range' 1 os.length) h0 hwant
 have hfin:∀ v,(b.at a (.inRegion ops (0::List.range' 1 os.length)::k)).finish v=b.at (a.put o.dst v) (.inRegion ops (List.range' 1 os.length)::k):=by
  intro v;rw [Frame.finish_at,h0];rfl
 obtain ⟨e,a₂,w₂,hq,harr⟩:=wp_ops _ _ _ hops' b k cs'
 have hs:step P (lone (b.at a (.inRegion ops (0::List.range' 1 os.length)::k)) (c₀::cs) w)=.next (lone (b.at (a.put o.dst x) (.inRegion ops (List.range' 1 os.length)::k)) cs' w):=by
  refine step_lone_go ?_
  rw [hg,←hfin]
  simp only [Frame.at] at htr ⊢
  rcases hrec with hrec | ⟨hrec,rfl,rfl⟩
  ·simp [stepG.apply,hop,htr,hrec]
  ·simp [stepG.apply,hop,htr,hrec]
 have hstart:=step_region (P:=P) (b:=b) (a:=a) (k:=k) (cs:=c₀::cs) (w:=w) (id:=id) (ops:=ops)
 rw [hlen] at hstart
 refine ⟨e,a₂,cs',w₂,?_,.of_steps (.head hstart (.one hs)) harr⟩
 cases e with
 | normal =>
  refine wpS_of_wp (wp_mono hq ?_)
  rintro e a₃ w₃ ⟨φ₃,σ₃,H₃,s₃,kp₃,hd₃,he,q⟩
  have fin:∃ u',cs' = { c₀ with mode:=u' }::cs∧∃ v,(results fn a₃.tmps).run P w₃=.ok v w₃∧(∃ φ' σ' H' r,(∃ v',Ending.returned v=.returned v')∧Step φ σ H w φ' σ' H' w₃∧z3a H H'∧u'=(if r=true then zRQ u else u)∧R r H'):=by
   refine ⟨_,hcs,.tuple #[],?_,φ₃,σ₃,H₃,_,⟨_,rfl⟩,s₃,kp₃,rfl,q⟩
   unfold results
   rw [hres];simp
  rcases he with rfl | rfl
  ·exact ⟨hd₃,fin⟩
  ·exact ⟨hd₃,fin⟩
 | exit id=>exact hq.elim
 | goto id=>exact hq.elim
 | ret=>exact hq.elim
 | panic c=>exact hq.elim
 | outgrown=>exact hq.elim
end Go.Ab
