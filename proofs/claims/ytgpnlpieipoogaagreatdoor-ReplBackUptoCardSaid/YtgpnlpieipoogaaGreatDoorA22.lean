/- Part 22 of the proof. -/
import Derived.Test.YtgpnlpieipoogaaGreatDoorA21
set_option linter.unusedVariables false
set_option linter.unusedSimpArgs false
namespace Go.Ab
variable {P:Program} {φ φ':Phi} {σ σ':Sig} {H H' K:Heap} {w w':World}
inductive SealX (id:Nat) (cs:List AV):AV→AV→Prop
 | base (v v':AV) (h:SealR id cs v v'):SealX id cs v v'
 | agg (l l':List AV) (h:l.length=l'.length) (r:∀ i,SealX id cs (l.getD i .top) (l'.getD i .top)):SealX id cs (.agg l) (.agg l')
 | tuple (l l':List AV) (h:l.length=l'.length) (r:∀ i,SealX id cs (l.getD i .top) (l'.getD i .top)):SealX id cs (.tuple l) (.tuple l')
 | list (sz:Nat) (xs xs':List AV) (h:xs.length=xs'.length) (hsz:∀ x∈xs',x.cells.length=sz) (r:∀ i,SealX id cs ((flat xs).getD i .top) ((flat xs').getD i .top)) :
   SealX id cs (.list sz xs) (.list sz xs')
theorem SealX.refl {id:Nat} {cs:List AV} (v:AV):SealX id cs v v:=.base _ _ (.refl v)
theorem step_sealX {id:Nat} {cs:List AV} (hr:HRel φ σ H w) (hg:H[id]? =some (.cells cs)) :
  ∃ σ',Step φ σ H w φ σ' (H.set id .dead) w∧Keeps H (H.set id .dead)∧∀ v v',SealX id cs v v'→∀ c,VRel φ σ v c→VRel φ σ' v' c:=by
 obtain ⟨σ',s,k,t⟩:=step_seal hr hg
 refine ⟨σ',s,k,?_⟩
 intro v v' hs
 induction hs with
 | base v v' h=>exact t v v' h
 | agg l l' hl r ih =>
  intro c h
  cases h with
  | agg _ cs' h1 h2=>exact .agg _ cs' (by omega) fun i=>ih i _ (h2 i)
 | tuple l l' hl r ih =>
  intro c h
  cases h with
  | tuple _ cs' h1 h2=>exact .tuple _ cs' (by omega) fun i=>ih i _ (h2 i)
 | list sz xs xs' hl hsz r ih =>
  intro c h
  cases h with
  | elist _ a =>
   have:xs'=[]:=by simpa using hl.symm
   subst this;exact .elist sz a
  | list _ _ b o n cap f hs hx hn h rr =>
   have e1:=flat_len hs
   have e2:=flat_len hsz
   refine .list sz xs' b o n cap f hsz (by omega) hn (fun i hi=>s.extS _ _ _ (h i (by rw [e1,hl,←e2];exact hi))) fun i=>ih i _ (rr i)
inductive SealsX (n:Nat):AV→Heap→AV→Heap→Prop
 | done (v:AV) (H:Heap):SealsX n v H v H
 | step {v v' u:AV} {H K:Heap} (id:Nat) (cs:List AV) (hid:n≤id) (hg:H[id]? =some (.cells cs)) (hs:SealX id cs v v') (h:SealsX n v' (H.set id .dead) u K):SealsX n v H u K
theorem SealsX.low {n:Nat} {v u:AV} {H K:Heap} (h:SealsX n v H u K):K.length=H.length∧∀ id,id<n→K[id]? =H[id]?:=by
 induction h with
 | done v H=>exact ⟨rfl,fun _ _=>rfl⟩
 | step id cs hid hg hs h ih =>
  refine ⟨by simpa using ih.1,fun j hj=>?_⟩
  rw [ih.2 j hj,List.getElem?_set,if_neg (by omega)]
theorem step_sealsX {n:Nat} {v u:AV} (h:SealsX n v H u K):∀ {φ:Phi} {σ:Sig} {c:Value},HRel φ σ H w→VRel φ σ v c→∃ σ',Step φ σ H w φ σ' K w∧Keeps H K∧VRel φ σ' u c:=by
 induction h with
 | done v H=>intro φ σ c hr hv;exact ⟨σ,.refl hr,.refl _,hv⟩
 | step id cs hid hg hs h ih =>
  intro φ σ c hr hv
  obtain ⟨σ₁,s₁,k₁,t₁⟩:=step_sealX hr hg
  obtain ⟨σ₂,s₂,k₂,t₂⟩:=ih s₁.hrel (t₁ _ _ hs _ hv)
  exact ⟨σ₂,s₁.trans s₂,k₁.trans k₂,t₂⟩
def Ends (S:AV→Heap→Prop) (T:AV→Heap→Prop):CPost:=fun r H'=>(∃ v,r=.ret v∧S v H')∨∃ p,r=.panic p∧T p H'
def EndsX (n:Nat) (S:AV→Heap→Prop) (T:AV→Heap→Prop):CPost:=fun r H'=>(∃ u v K,r=.ret u∧SealsX n u H' v K∧S v K)∨∃ p,r=.panic p∧T p H'
theorem ACall.sealed {f:FuncId} {args:List AV} {n:Nat} {S T:AV→Heap→Prop} (h:ACall P f args H (EndsX n S T)):ACall P f args H (Ends S T):=by
 intro φ σ cargs w hr hc
 refine (h φ σ cargs w hr hc).mono ?_
 rintro e w' ⟨φ',σ',r,H',s,kp,rr,⟨u,v,K,rfl,hs,hq⟩ | ⟨p,rfl,hq⟩⟩
 ·obtain ⟨c,rfl,hvc⟩:=rr
  obtain ⟨σ₂,s₂,k₂,t₂⟩:=step_sealsX hs s.hrel hvc
  exact ⟨φ',σ₂,.ret v,K,s.trans s₂,kp.trans k₂,⟨c,rfl,t₂⟩,.inl ⟨v,rfl,hq⟩⟩
 ·exact ⟨φ',σ',_,H',s,kp,rr,.inr ⟨p,rfl,hq⟩⟩
structure Mod (H:Heap) (rid:Nat) (b:Blk) (H':Heap):Prop where
 get:H'[rid]? =some b
 old:∀ id x,id≠rid→H[id]? =some x→H'[id]? =some x
 len:H.length≤H'.length
theorem Mod.refl {rid:Nat} {b:Blk} (h:H[rid]? =some b):Mod H rid b H:=⟨h,fun _ _ _ h=>h,Nat.le_refl _⟩
theorem Mod.trans {rid:Nat} {b b':Blk} (h:Mod H rid b H') (k:Mod H' rid b' K):Mod H rid b' K:=⟨k.get,fun id x hn hx=>k.old id x hn (h.old id x hn hx),Nat.le_trans h.len k.len⟩
theorem Mod.app {rid:Nat} {b:Blk} (h:Mod H rid b H') (G:Heap):Mod H rid b (H'++G) :=
 ⟨by rw [List.getElem?_append_left (List.getElem?_eq_some_iff.1 h.get).1];exact h.get,fun id x hn hx=>by
  have:=h.old id x hn hx
  rw [List.getElem?_append_left (List.getElem?_eq_some_iff.1 this).1];exact this,by simp;have:=h.len;omega⟩
theorem Mod.lt {rid:Nat} {b:Blk} (h:Mod H rid b H'):rid<H'.length:=(List.getElem?_eq_some_iff.1 h.get).1
theorem Mod.own {rid id:Nat} {b x:Blk} (h:Mod H rid b H') (h1:H.length≤id) (h2:id≠rid):Mod H rid b (H'.set id x) :=
 ⟨by rw [List.getElem?_set,if_neg h2];exact h.get,fun j y hn hy=>by
  have h3:=(List.getElem?_eq_some_iff.1 hy).1
  rw [List.getElem?_set,if_neg (by omega)];exact h.old j y hn hy,by simp;exact h.len⟩
theorem Mod.put {rid:Nat} {b x:Blk} (h:Mod H rid b H'):Mod H rid x (H'.set rid x) :=
 ⟨by rw [List.getElem?_set,if_pos rfl,if_pos h.lt],fun j y hn hy=>by
  rw [List.getElem?_set,if_neg (fun e=>hn e.symm)];exact h.old j y hn hy,by simp;exact h.len⟩
theorem Mod.seals {rid n:Nat} {b:Blk} {v u:AV} (h:Mod H rid b H') (hr:rid<H.length) (hn:H.length≤n) (hs:SealsX n v H' u K):Mod H rid b K:=by
 obtain ⟨h1,h2⟩:=hs.low
 exact ⟨by rw [h2 rid (by omega)];exact h.get,fun id x hne hx=>by
  have h3:=(List.getElem?_eq_some_iff.1 hx).1
  rw [h2 id (by omega)];exact h.old id x hne hx,by have:=h.len;omega⟩
theorem SealsX.trans {n:Nat} {v u x:AV} {H K L:Heap} (h:SealsX n v H u K) (k:SealsX n u K x L):SealsX n v H x L:=by
 induction h with
 | done v H=>exact k
 | step id cs hid hg hs h ih=>exact .step id cs hid hg hs (ih k)
end Go.Ab
