/- Part 14 of the proof. -/
import Derived.Test.YtagcckioikbanaaGreatDoorM13
set_option linter.unusedVariables false
set_option linter.unusedSimpArgs false
namespace Go.Ab
variable {P:Program} {φ φ':Phi} {σ σ':Sig} {H:z0B} {w w':World}
def below (n:Nat) (φ:Phi):Phi:=fun id=>if id<n then φ id else none
def Old (n:Nat) (v:AV):Prop:=∃ (φ:Phi) (σ:Sig) (c:Value),(∀ id L,φ id=some L→id<n)∧VRel φ σ v c
theorem z8R {n:Nat} {v:AV} {c:Value} (h:VRel φ' σ' v c):Old n v→VRel (below n φ') σ' v c:=by
 induction h with
 | top v=>intro _;exact .top v
 | bool b=>intro _;exact .bool b
 | int k m=>intro _;exact .int k m
 | str l s h=>intro _;exact .str l s h
 | nilptr=>intro _;exact .nilptr
 | ptr id off L h =>
  rintro ⟨φ,σ,c,hd,hr⟩
  cases hr with
  | ptr _ _ M hM=>exact .ptr id off L (by simp only [below];rw [if_pos (hd _ _ hM)];exact h)
 | cptr cs b o f h r ih =>
  rintro ⟨φ,σ,c,hd,hr⟩
  cases hr with
  | cptr _ b' o' f' h' r'=>exact .cptr cs b o f h fun i=>ih i ⟨φ,σ,_,hd,r' i⟩
 | glob g=>intro _;exact .glob g
 | nilslice=>intro _;exact .nilslice
 | sl id off m sz cap L h hn hc =>
  rintro ⟨φ,σ,c,hd,hr⟩
  cases hr with
  | sl _ _ _ _ cap' M hM _ _=>exact .sl id off m sz cap L (by simp only [below];rw [if_pos (hd _ _ hM)];exact h) hn hc
 | list sz xs b o m cap f hsz hx hn h r ih =>
  rintro ⟨φ,σ,c,hd,hr⟩
  cases hr with
  | list _ _ b' o' m' cap' f' hsz' hx' hn' h' r'=>exact .list sz xs b o m cap f hsz hx hn h fun i=>ih i ⟨φ,σ,_,hd,r' i⟩
  | elist _ a=>exact .list sz [] b o m cap f hsz hx hn h fun i=>.top _
 | elist sz a=>intro _;exact .elist sz a
 | nilmap=>intro _;exact .nilmap
 | map id L h =>
  rintro ⟨φ,σ,c,hd,hr⟩
  cases hr with
  | map _ M hM=>exact .map id L (by simp only [below];rw [if_pos (hd _ _ hM)];exact h)
 | nilfunc=>intro _;exact .nilfunc
 | clo fn fs cs fs' cs' hf hc r1 r2 ih1 ih2 =>
  rintro ⟨φ,σ,c,hd,hr⟩
  cases hr with
  | clo _ _ _ gs ds g1 g2 q1 q2=>exact .clo fn fs cs fs' cs' hf hc (fun i=>ih1 i ⟨φ,σ,_,hd,q1 i⟩) (fun i=>ih2 i ⟨φ,σ,_,hd,q2 i⟩)
 | niliface=>intro _;exact .niliface
 | iface t v v' r ih =>
  rintro ⟨φ,σ,c,hd,hr⟩
  cases hr with
  | iface _ _ u q=>exact .iface t v v' (ih ⟨φ,σ,_,hd,q⟩)
 | agg cs cs' h r ih =>
  rintro ⟨φ,σ,c,hd,hr⟩
  cases hr with
  | agg _ ds g q=>exact .agg cs cs' h fun i=>ih i ⟨φ,σ,_,hd,q i⟩
 | tuple cs cs' h r ih =>
  rintro ⟨φ,σ,c,hd,hr⟩
  cases hr with
  | tuple _ ds g q=>exact .tuple cs cs' h fun i=>ih i ⟨φ,σ,_,hd,q i⟩
theorem zKS {n:Nat} {L L₀:Loc} {b:Blk} (hd:∀ id L,φ id=some L→id<n) (h₀:zKj φ σ w L₀ b) (h:zKj φ' σ' w' L b):zKj (below n φ') σ' w' L b:=by
 cases b with
 | dead=>trivial
 | resv=>trivial
 | cells cs =>
  obtain ⟨arr,t,fr,h1,h2,h3,h4,h5,h6⟩:=h
  obtain ⟨arr',t',fr',g1,g2,g3,g4,g5,g6⟩:=h₀
  exact ⟨arr,t,fr,h1,h2,h3,h4,fun i hi=>z8R (h5 i hi) ⟨φ,σ,_,hd,g5 i hi⟩,h6⟩
 | map es clock =>
  obtain ⟨ces,h1,h2,h3⟩:=h
  obtain ⟨ces',g1,g2,g3⟩:=h₀
  refine ⟨ces,h1,h2,fun i hi hi'=>?_⟩
  have a:=h3 i hi hi'
  have b:=g3 i hi (by omega)
  exact ⟨z8R a.1 ⟨φ,σ,_,hd,b.1⟩,z8R a.2.1 ⟨φ,σ,_,hd,b.2.1⟩,a.2.2⟩
 | iter m since seen last =>
  obtain ⟨h0,cm,h1,h2⟩:=h
  obtain ⟨g0,cm',g1,g2⟩:=h₀
  refine ⟨h0,cm,h1,?_⟩
  rcases h2 with h2 | ⟨id,b,M,e1,e2,e3,e4⟩
  ·exact .inl h2
  ·rcases g2 with ⟨g2,_⟩ | ⟨id',b',M',f1,f2,f3,f4⟩
   ·rw [e1] at g2;cases g2
   ·rw [e1] at f1;injection f1 with f1;subst f1
    exact .inr ⟨id,b,M,e1,e2,by simp only [below];rw [if_pos (hd _ _ f3)];exact e3,e4⟩
theorem z6w {G:z0B} (hr:HRel φ σ H w) (s:Step φ σ H w φ' σ' (H++G) w'):Step φ σ H w (below H.length φ') σ' H w':=by
 have hin:∀ (id:Nat) (b:Blk),H[id]? =some b→(H++G)[id]? =some b:=by
  intro id b h
  have hlt:id<H.length:=(lAA.1 h).1
  rw [lAN hlt];exact h
 have hget:∀ (id:Nat) (L:Loc),below H.length φ' id=some L→id<H.length∧φ' id=some L:=by
  intro id L h
  unfold below at h
  split at h
  ·exact ⟨by assumption,h⟩
  ·cases h
 refine ⟨?_,s.extS,s.os,s.tape,s.output,s.size,s.frame,?_,?_⟩
 ·intro id L h
  unfold below
  rw [if_pos (hr.dom _ _ h)];exact s.extP _ _ h
 ·rintro b ⟨id,blk,L,h1,h2,h3,h4⟩
  exact s.own b ⟨id,blk,L,hin _ _ h1,h2,(hget _ _ h3).2,h4⟩
 ·refine ⟨fun id L h=>(hget _ _ h).1,fun id L h=>s.hrel.bnd id L (hget _ _ h).2,?_,?_,s.hrel.sig,?_⟩
  ·intro id b h hl
   obtain ⟨L,h1,h2⟩:=s.hrel.blk id b (hin _ _ h) hl
   obtain ⟨L₀,g1,g2⟩:=hr.blk id b h hl
   have hlt:id<H.length:=(lAA.1 h).1
   exact ⟨L,by unfold below;rw [if_pos hlt];exact h1,zKS hr.dom g2 h2⟩
  ·intro id id' b b' L L' h1 h2 h3 h4 h5 h6 h7
   exact s.hrel.inj id id' b b' L L' (hin _ _ h1) h2 (hin _ _ h3) h4 (hget _ _ h5).2 (hget _ _ h6).2 h7
  ·intro id h
   have:=s.hrel.resv id (hin _ _ h)
   unfold below;split
   ·exact this
   ·rfl
def z1t:Nat→AV→Bool
 | 0,_=>false
 | n+1,v=>match v with
  | .bool _ | .int _ _ | .str _ | .nilptr | .glob _ | .nilslice | .nilmap | .nilfunc | .niliface | .top=>true
  | .agg l | .tuple l | .list _ l=>l.all (z1t n)
  | _=>false
theorem z7A:∀ {n:Nat} {v:AV},z1t n v=true→z1t (n+1) v=true
 | 0,_,h=>by cases h
 | n+1,v,h=>by
  have each:∀ l:List AV,l.all (z1t n)=true→l.all (z1t (n+1))=true:=fun l hl =>
   lAX.2 fun x hx=>z7A (lAX.1 hl x hx)
  cases v<;>first
   | rfl
   | (simp only [z1t] at h ⊢;exact each _ h)
   | (simp [z1t] at h)
theorem z6R {n m:Nat} {v:AV} (hp:z1t n v=true):∀ {c:Value},VRel φ' σ' v c→VRel (below m φ') σ' v c:=by
 induction n generalizing v with
 | zero=>cases hp
 | succ n ih =>
  have each:∀ (l:List AV),l.all (z1t n)=true→∀ i c,VRel φ' σ' (l.getD i .top) c→VRel (below m φ') σ' (l.getD i .top) c:=by
   intro l hl i c hc
   rcases lBB i l.length with h | h
   ·rw [lAB,lAG h] at hc ⊢
    exact ih (lAX.1 hl _ (lBT h)) hc
   ·rw [lAB,lBG h];exact .top _
  have flats:∀ (l:List AV),l.all (z1t n)=true→∀ i c,VRel φ' σ' ((z0j l).getD i .top) c→VRel (below m φ') σ' ((z0j l).getD i .top) c:=by
   intro l hl i c hc
   rcases lBB i (z0j l).length with h | h
   ·rw [lAB,lAG h] at hc ⊢
    have hmem:=lBT h
    simp only [z0j,lBW] at hmem
    obtain ⟨x,hx,hy⟩:=hmem
    have hpx:=lAX.1 hl x hx
    simp only [lB1] at hc ⊢
    change (z0j l)[i]∈x.cells at hy
    generalize (z0j l)[i]=y at hc hy ⊢
    cases x<;>first
     | (simp only [AV.cells,lA1] at hy;subst hy;exact ih hpx hc)
     | skip
    rename_i cs
    simp only [AV.cells] at hy
    cases n with
    | zero=>cases hpx
    | succ n =>
     simp only [z1t] at hpx
     have hpy:=lAX.1 hpx y hy
     exact ih (z7A hpy) hc
   ·rw [lAB,lBG h];exact .top _
  intro c hc
  cases hc with
  | top=>exact .top _
  | bool b=>exact .bool b
  | int k x=>exact .int k x
  | str l s h=>exact .str l s h
  | nilptr=>exact .nilptr
  | glob g=>exact .glob g
  | nilslice=>exact .nilslice
  | nilmap=>exact .nilmap
  | nilfunc=>exact .nilfunc
  | niliface=>exact .niliface
  | agg cs cs' h r=>exact .agg cs cs' h fun i=>each cs (by simpa only [z1t] using hp) i _ (r i)
  | tuple cs cs' h r=>exact .tuple cs cs' h fun i=>each cs (by simpa only [z1t] using hp) i _ (r i)
  | list sz xs b o k cap f hsz hx hn h r=>exact .list sz xs b o k cap f hsz hx hn h fun i=>flats xs (by simpa only [z1t] using hp) i _ (r i)
  | elist sz a=>exact .elist sz a
  | ptr _ _ _ _=>simp [z1t] at hp
  | cptr _ _ _ _ _ _=>simp [z1t] at hp
  | sl _ _ _ _ _ _ _ _ _=>simp [z1t] at hp
  | map _ _ _=>simp [z1t] at hp
  | clo _ _ _ _ _ _ _ _ _=>simp [z1t] at hp
  | iface _ _ _ _=>simp [z1t] at hp
theorem z0D.forget {f:FuncId} {args:List AV} {v:AV} (hv:z1t 9 v=true) (h:z0D P f args H (fun r H'=>r=.ret v∧∃ G,H'=H++G)) :
  z0D P f args H (fun r H'=>r=.ret v∧H'=H):=by
 intro φ σ cargs w hr hc
 refine (h φ σ cargs w hr hc).mono ?_
 rintro e w' ⟨φ',σ',r,H',s,kp,rr,rfl,G,rfl⟩
 obtain ⟨c,rfl,hvc⟩:=rr
 exact ⟨_,σ',.ret v,H,z6w hr s,.refl _,⟨c,rfl,z6R hv hvc⟩,rfl,rfl⟩
end Go.Ab
