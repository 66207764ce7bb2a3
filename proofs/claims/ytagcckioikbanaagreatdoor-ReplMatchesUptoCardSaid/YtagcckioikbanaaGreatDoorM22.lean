/- Part 22 of the proof. -/
import Derived.Test.YtagcckioikbanaaGreatDoorM21
set_option linter.unusedVariables false
set_option linter.unusedSimpArgs false
namespace Go.Ab
variable {P:Program} {φ φ':Phi} {σ σ':Sig} {H H' K:z0B} {w w':World}
inductive SealX (id:Nat) (cs:List AV):AV→AV→Prop
 | base (v v':AV) (h:SealR id cs v v'):SealX id cs v v'
 | agg (l l':List AV) (h:l.length=l'.length) (r:∀ i,SealX id cs (l.getD i .top) (l'.getD i .top)):SealX id cs (.agg l) (.agg l')
 | tuple (l l':List AV) (h:l.length=l'.length) (r:∀ i,SealX id cs (l.getD i .top) (l'.getD i .top)):SealX id cs (.tuple l) (.tuple l')
 | list (sz:Nat) (xs xs':List AV) (h:xs.length=xs'.length) (hsz:∀ x∈xs',x.cells.length=sz) (r:∀ i,SealX id cs ((z0j xs).getD i .top) ((z0j xs').getD i .top)) :
   SealX id cs (.list sz xs) (.list sz xs')
 | cptr (l l':List AV) (h:l.length=l'.length) (r:∀ i,SealX id cs (l.getD i .top) (l'.getD i .top)):SealX id cs (.cptr l) (.cptr l')
 | clo (fn:Fn) (fs l l':List AV) (h:l.length=l'.length) (r:∀ i,SealX id cs (l.getD i .top) (l'.getD i .top)):SealX id cs (.clo fn fs l) (.clo fn fs l')
theorem SealX.refl {id:Nat} {cs:List AV} (v:AV):SealX id cs v v:=.base _ _ (.refl v)
theorem zJV {id:Nat} {cs:List AV} (hr:HRel φ σ H w) (hg:H[id]? =some (.cells cs)) :
  ∃ σ',Step φ σ H w φ σ' (H.set id .dead) w∧z3a H (H.set id .dead)∧∀ v v',SealX id cs v v'→∀ c,VRel φ σ v c→VRel φ σ' v' c:=by
 obtain ⟨σ',s,k,t⟩:=z9z hr hg
 refine ⟨σ',s,k,?_⟩
 intro v v' hs
 induction hs with
 | base v v' h=>exact t v v' h
 | agg l l' hl r ih =>
  intro c h
  cases h with
  | agg _ cs' h1 h2=>exact .agg _ cs' (by omega) fun i=>ih i _ (h2 i)
 | tuple l l' hl r ih =>
  intro c h
  cases h with
  | tuple _ cs' h1 h2=>exact .tuple _ cs' (by omega) fun i=>ih i _ (h2 i)
 | list sz xs xs' hl hsz r ih =>
  intro c h
  cases h with
  | elist _ a =>
   have:xs'=[]:=by simpa using hl.symm
   subst this;exact .elist sz a
  | list _ _ b o n cap f hs hx hn h rr =>
   have e1:=z0y hs
   have e2:=z0y hsz
   refine .list sz xs' b o n cap f hsz (by omega) hn (fun i hi=>s.extS _ _ _ (h i (by rw [e1,hl,←e2];exact hi))) fun i=>ih i _ (rr i)
 | cptr l l' hl r ih =>
  intro c h
  cases h with
  | cptr _ b o f h rr=>exact .cptr l' b o f (fun i hi=>s.extS _ _ _ (h i (by omega))) fun i=>ih i _ (rr i)
 | clo fn fs l l' hl r ih =>
  intro c h
  cases h with
  | clo _ _ _ fs' cs' hf hc rf rc=>exact .clo fn fs l' fs' cs' hf (by omega) (fun i=>t _ _ (.refl _) _ (rf i)) fun i=>ih i _ (rc i)
inductive SealsX (n:Nat):AV→z0B→AV→z0B→Prop
 | done (v:AV) (H:z0B):SealsX n v H v H
 | step {v v' u:AV} {H K:z0B} (id:Nat) (cs:List AV) (hid:n≤id) (hg:H[id]? =some (.cells cs)) (hs:SealX id cs v v') (h:SealsX n v' (H.set id .dead) u K):SealsX n v H u K
theorem zFq {n:Nat} {v u:AV} (h:SealsX n v H u K):∀ {φ:Phi} {σ:Sig} {c:Value},HRel φ σ H w→VRel φ σ v c→∃ σ',Step φ σ H w φ σ' K w∧z3a H K∧VRel φ σ' u c:=by
 induction h with
 | done v H=>intro φ σ c hr hv;exact ⟨σ,.refl hr,.refl _,hv⟩
 | step id cs hid hg hs h ih =>
  intro φ σ c hr hv
  obtain ⟨σ₁,s₁,k₁,t₁⟩:=zJV hr hg
  obtain ⟨σ₂,s₂,k₂,t₂⟩:=ih s₁.hrel (t₁ _ _ hs _ hv)
  exact ⟨σ₂,s₁.trans s₂,k₁.trans k₂,t₂⟩
def zNU (S:AV→z0B→Prop) (T:AV→z0B→Prop):z2U:=fun r H'=>(∃ v,r=.ret v∧S v H')∨∃ p,r=.panic p∧T p H'
def zZe (n:Nat) (S:AV→z0B→Prop) (T:AV→z0B→Prop):z2U:=fun r H'=>(∃ u v K,r=.ret u∧SealsX n u H' v K∧S v K)∨∃ p,r=.panic p∧T p H'
theorem z0D.sealed {f:FuncId} {args:List AV} {n:Nat} {S T:AV→z0B→Prop} (h:z0D P f args H (zZe n S T)):z0D P f args H (zNU S T):=by
 intro φ σ cargs w hr hc
 refine (h φ σ cargs w hr hc).mono ?_
 rintro e w' ⟨φ',σ',r,H',s,kp,rr,⟨u,v,K,rfl,hs,hq⟩ | ⟨p,rfl,hq⟩⟩
 ·obtain ⟨c,rfl,hvc⟩:=rr
  obtain ⟨σ₂,s₂,k₂,t₂⟩:=zFq hs s.hrel hvc
  exact ⟨φ',σ₂,.ret v,K,s.trans s₂,kp.trans k₂,⟨c,rfl,t₂⟩,.inl ⟨v,rfl,hq⟩⟩
 ·exact ⟨φ',σ',_,H',s,kp,rr,.inr ⟨p,rfl,hq⟩⟩
structure Mod (H:z0B) (rid:Nat) (b:Blk) (H':z0B):Prop where
 get:H'[rid]? =some b
 old:∀ id x,id≠rid→H[id]? =some x→H'[id]? =some x
 len:H.length≤H'.length
theorem Mod.refl {rid:Nat} {b:Blk} (h:H[rid]? =some b):Mod H rid b H:=⟨h,fun _ _ _ h=>h,lAL _⟩
theorem Mod.trans {rid:Nat} {b b':Blk} (h:Mod H rid b H') (k:Mod H' rid b' K):Mod H rid b' K:=⟨k.get,fun id x hn hx=>k.old id x hn (h.old id x hn hx),lBM h.len k.len⟩
theorem Mod.app {rid:Nat} {b:Blk} (h:Mod H rid b H') (G:z0B):Mod H rid b (H'++G) :=
 ⟨by rw [lAN (lAA.1 h.get).1];exact h.get,fun id x hn hx=>by
  have:=h.old id x hn hx
  rw [lAN (lAA.1 this).1];exact this,by simp;have:=h.len;omega⟩
theorem Mod.lt {rid:Nat} {b:Blk} (h:Mod H rid b H'):rid<H'.length:=(lAA.1 h.get).1
theorem Mod.own {rid id:Nat} {b x:Blk} (h:Mod H rid b H') (h1:H.length≤id) (h2:id≠rid):Mod H rid b (H'.set id x) :=
 ⟨by rw [lA7,if_neg h2];exact h.get,fun j y hn hy=>by
  have h3:=(lAA.1 hy).1
  rw [lA7,if_neg (by omega)];exact h.old j y hn hy,by simp;exact h.len⟩
theorem Mod.put {rid:Nat} {b x:Blk} (h:Mod H rid b H'):Mod H rid x (H'.set rid x) :=
 ⟨by rw [lA7,if_pos rfl,if_pos h.lt],fun j y hn hy=>by
  rw [lA7,if_neg (fun e=>hn e.symm)];exact h.old j y hn hy,by simp;exact h.len⟩
theorem SealsX.ctx {n:Nat} {C:AV→AV} (hC:∀ {id cs x y},SealX id cs x y→SealX id cs (C x) (C y)) {v u:AV} {H K:z0B} (h:SealsX n v H u K):SealsX n (C v) H (C u) K:=by
 induction h with
 | done v H=>exact .done _ _
 | step id cs hid hg hs h ih=>exact .step id cs hid hg (hC hs) ih
theorem SealsX.trans {n:Nat} {v u x:AV} {H K L:z0B} (h:SealsX n v H u K) (k:SealsX n u K x L):SealsX n v H x L:=by
 induction h with
 | done v H=>exact k
 | step id cs hid hg hs h ih=>exact .step id cs hid hg hs (ih k)
end Go.Ab
