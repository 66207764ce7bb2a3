/- Part 8 of the proof. -/
import Derived.Test.YtagcckioikbanaaGreatDoorM07
set_option linter.unusedVariables false
set_option linter.unusedSimpArgs false
namespace Go.Ab
variable {P:Program} {φ:Phi} {σ:Sig} {H:z0B} {w:World}
inductive RV where
 | tmp (t:Nat)
 | cell (t:Nat) (n:Option Nat)
def cRV (P:Program):List ResultVar→Option (List RV)
 | []=>some []
 | .tmp t::l=>match cRV P l with
  | some r=>some (.tmp t::r)
  | none=>none
 | .cell a t::l=>match z4k P t,cRV P l with
  | some n,some r=>some (.cell a n::r)
  | _,_=>none
def zLc (rs:List RV) (env:Env) (H:z0B):Option (List AV) :=
 match rs with
 | []=>some []
 | .tmp t::l=>match zLc l env H with
  | some r=>some (env.get t::r)
  | none=>none
 | .cell t n::l=>match z0h n (env.get t) H,zLc l env H with
  | some v,some r=>some (v::r)
  | _,_=>none
def z3T (rs:List RV) (env:Env) (H:z0B):Option AV :=
 match zLc rs env H with
 | some [v]=>some v
 | some vs=>some (.tuple vs)
 | none=>none
def z8c (tmps:Array Value) (r:ResultVar):Sem Value :=
 match r with
 | .tmp t=>pure (tmps.getD t undef)
 | .cell a t=>do loadVar t (← asAddr (tmps.getD a undef))
theorem zCv {env:Env} {tmps:Array Value} (hr:HRel φ σ H w) (er:ERel φ σ env tmps):∀ (l:List ResultVar) (rs:List RV) (vs:List AV),cRV P l=some rs→zLc rs env H=some vs →
  ∃ cs,(l.mapM (z8c tmps)).run P w=.ok cs w∧vs.length=cs.length∧∀ i,VRel φ σ (vs.getD i .top) (cs.getD i undef)
 | [],rs,vs,hc,hv=>by
  simp only [cRV] at hc;injection hc with hc;subst hc
  simp only [zLc] at hv;injection hv with hv;subst hv
  exact ⟨[],rfl,rfl,fun i=>by simpa using VRel.top _⟩
 | .tmp t::l,rs,vs,hc,hv=>by
  simp only [cRV] at hc
  split at hc
  case h_2=>cases hc
  rename_i r hr'
  injection hc with hc;subst hc
  simp only [zLc] at hv
  split at hv
  case h_2=>cases hv
  rename_i us hus
  injection hv with hv;subst hv
  obtain ⟨cs,h1,h2,h3⟩:=zCv hr er l r us hr' hus
  refine ⟨tmps.getD t undef::cs,?_,by simp [h2],fun i=>?_⟩
  ·rw [List.mapM_cons]
   simp only [z8c,Sem.run_bind,Sem.run_pure,Result.andThen_ok] at h1 ⊢
   rw [h1];rfl
  ·cases i with
   | zero=>simpa using er.get t
   | succ i=>simpa using h3 i
 | .cell a t::l,rs,vs,hc,hv=>by
  simp only [cRV] at hc
  split at hc
  case h_2=>cases hc
  rename_i n r hn hr'
  injection hc with hc;subst hc
  simp only [zLc] at hv
  split at hv
  case h_2=>cases hv
  rename_i v us hv' hus
  injection hv with hv;subst hv
  obtain ⟨cs,h1,h2,h3⟩:=zCv hr er l r us hr' hus
  obtain ⟨c,h4,h5⟩:=zEK (P:=P) hn hr (er.get a) hv'
  refine ⟨c::cs,?_,by simp [h2],fun i=>?_⟩
  ·rw [List.mapM_cons]
   have h6:(z8c tmps (.cell a t)).run P w=.ok c w:=by
    unfold Instr.loadAt at h4
    simp only [z8c,Sem.run_bind] at h4 ⊢
    generalize tmps.getD a undef=q at h4 ⊢
    cases q<;>simp [Instr.sureAddr,asAddr] at h4 ⊢
    rename_i oa
    cases oa with
    | none=>simp at h4
    | some ad=>simpa using h4
   simp only [Sem.run_bind,h6,Result.andThen_ok,h1,Sem.run_pure]
  ·cases i with
   | zero=>simpa using h5
   | succ i=>simpa using h3 i
theorem z3d {fn:Func} {env:Env} {tmps:Array Value} {rs:List RV} {v:AV} (hr:HRel φ σ H w) (er:ERel φ σ env tmps) (hc:cRV P fn.results.toList=some rs)
  (hv:z3T rs env H=some v):∃ c,(results fn tmps).run P w=.ok c w∧VRel φ σ v c:=by
 unfold z3T at hv
 cases hvs:zLc rs env H with
 | none=>simp [hvs] at hv
 | some vs =>
  obtain ⟨cs,h1,h2,h3⟩:=zCv (P:=P) hr er _ _ _ hc hvs
  have e:(fn.results.mapM (z8c tmps)).run P w=.ok cs.toArray w:=by
   rw [Array.mapM_eq_mapM_toList,Sem.run_map,h1];rfl
  have e':results fn tmps=(do
    let vs ← fn.results.mapM (z8c tmps)
    pure (if h:vs.size=1 then vs[0] else .tuple vs)):=rfl
  rw [e']
  simp only [Sem.run_bind,e,Result.andThen_ok,Sem.run_pure]
  rw [hvs] at hv
  clear hvs
  cases vs with
  | nil =>
   injection hv with hv;subst hv
   have:cs=[]:=by cases cs<;>simp at h2 ⊢
   subst this
   exact ⟨_,rfl,.tuple _ _ rfl fun i=>by simpa using VRel.top _⟩
  | cons u us =>
   cases us with
   | nil =>
    injection hv with hv;subst hv
    match cs,h2,h3 with
    | [c],_,h3=>exact ⟨c,rfl,by simpa using h3 0⟩
   | cons u' us =>
    injection hv with hv;subst hv
    match cs,h2,h3 with
    | c::c'::cs,h2,h3 =>
     refine ⟨.tuple (c::c'::cs).toArray,rfl,.tuple _ _ (by simpa using h2) fun i=>?_⟩
     rw [zHw];exact h3 i
def zKC (rs:List RV) (Q:z2U):zJL
 | .normal,env,H=>∃ v,z3T rs env H=some v∧Q (.ret v) H
 | .ret,env,H=>∃ v,z3T rs env H=some v∧Q (.ret v) H
 | .panic v,_,H=>Q (.panic v) H
 | _,_,_=>False
def z6k:Nat→List AV→List (Nat × AV)
 | _,[]=>[]
 | k,v::vs=>(k,v)::z6k (k+1) vs
def enter (n:Nat) (args:List AV):Env:=⟨n,z2V (z6k 0 args)⟩
theorem z7G (vs:List AV):∀ (k i:Nat),z2V (z6k k vs) i=if k≤i then vs.getD (i-k) .top else .top:=by
 induction vs with
 | nil=>intro k i;simp [z6k,z2V]
 | cons v vs ih =>
  intro k i
  simp only [z6k,z2V]
  cases h:Nat.beq k i with
  | true =>
   have:=lAY h
   subst this
   simp
  | false =>
   have hne:=Nat.ne_of_beq_eq_false h
   rw [cond_false,ih]
   by_cases hk:k+1≤i
   ·rw [if_pos hk,if_pos (by omega),show i-k=(i-(k+1))+1 by omega]
    simp
   ·rw [if_neg hk,if_neg (by omega)]
theorem zFk {f:FuncId} {fn:Func} {c:Code} {args:List AV} {rs:List RV} {Q:z2U} (hf:P.funcs[f]? =some fn) (hb:fn.body=some c)
  (hc:cRV P fn.results.toList=some rs) (hn:args.length≤fn.ntmps) (h:AWP P c (zKC rs Q) (enter fn.ntmps args) H):z0D P f args H Q:=by
 intro φ σ cargs w hr er
 refine calls_of_wp hf hb ?_
 have er':ERel φ σ (enter fn.ntmps args) (cargs++Array.replicate (fn.ntmps-cargs.size) undef):=by
  have hs:=er.1
  refine ⟨by simp [enter];omega,fun i=>?_⟩
  simp only [enter,z7G,Nat.zero_le,if_true,lEA]
  rw [lAR]
  by_cases hi:i<args.length
  ·rw [lB8 (by omega),←lAR]
   exact er.2 i
  ·rw [lAB,lBG (by omega)]
   exact .top _
 refine wp_mono (h φ σ { tmps:=cargs++Array.replicate (fn.ntmps-cargs.size) undef,defers:=[] } w hr er') ?_
 rintro e a' w' ⟨φ',σ',x,env',H',s,kp,xr,er₂,hd,q⟩
 cases x with
 | normal =>
  cases xr
  obtain ⟨v,hv,q⟩:=q
  obtain ⟨cv,h1,h2⟩:=z3d (P:=P) (fn:=fn) s.hrel er₂ hc hv
  exact ⟨hd,cv,h1,φ',σ',.ret v,H',s,kp,⟨cv,rfl,h2⟩,q⟩
 | ret =>
  cases xr
  obtain ⟨v,hv,q⟩:=q
  obtain ⟨cv,h1,h2⟩:=z3d (P:=P) (fn:=fn) s.hrel er₂ hc hv
  exact ⟨hd,cv,h1,φ',σ',.ret v,H',s,kp,⟨cv,rfl,h2⟩,q⟩
 | panic v =>
  obtain ⟨cv,rfl,h2⟩:=xr
  exact ⟨hd,φ',σ',.panic v,H',s,kp,⟨cv,rfl,h2⟩,q⟩
 | exit id=>exact q.elim
 | goto l=>exact q.elim
end Go.Ab
