/- Part 17 of the proof. -/
import Derived.Test.YtgpnlpieipoogaaGreatDoorA16
set_option linter.unusedVariables false
set_option linter.unusedSimpArgs false
namespace Go.Ab
variable {P:Program} {φ φ':Phi} {σ σ':Sig} {H:Heap} {w w':World}
inductive SealR (id:Nat) (cs:List AV):AV→AV→Prop
 | refl (v:AV):SealR id cs v v
 | sl (off n sz:Nat) (xs:List AV) (hx:xs.length=n) (hs:∀ x∈xs,x.cells.length=sz) (hf:flat xs=(cs.drop off).take (n*sz)) (hb:off+n*sz≤cs.length) :
   SealR id cs (.sl id off n sz) (.list sz xs)
 | ptr (off:Nat) (h:off≤cs.length):SealR id cs (.ptr id off) (.cptr (cs.drop off))
 | agg (l l':List AV) (h:l.length=l'.length) (r:∀ i,SealR id cs (l.getD i .top) (l'.getD i .top)):SealR id cs (.agg l) (.agg l')
 | tuple (l l':List AV) (h:l.length=l'.length) (r:∀ i,SealR id cs (l.getD i .top) (l'.getD i .top)):SealR id cs (.tuple l) (.tuple l')
 | iface (t:TypeId) (v v':AV) (r:SealR id cs v v'):SealR id cs (.iface t v) (.iface t v')
theorem flat_len {sz:Nat}:∀ {xs:List AV},(∀ x∈xs,x.cells.length=sz)→(flat xs).length=xs.length*sz
 | [],_=>by simp [flat]
 | x::xs,h=>by
  have ih:=flat_len (xs:=xs) (sz:=sz) fun y hy=>h y (by simp [hy])
  have h0:=h x (by simp)
  have e:flat (x::xs)=x.cells++flat xs:=rfl
  rw [e,List.length_append,ih,h0,List.length_cons,Nat.add_mul];omega
theorem step_seal {id:Nat} {cs:List AV} (hr:HRel φ σ H w) (hg:H[id]? =some (.cells cs)) :
  ∃ σ',Step φ σ H w φ σ' (H.set id .dead) w∧Keeps H (H.set id .dead)∧∀ v v',SealR id cs v v'→∀ c,VRel φ σ v c→VRel φ σ' v' c:=by
 obtain ⟨L,hp,arr,t,fr,h1,h2,h3,h4,h5,h6⟩:=hr.blk id _ hg rfl
 have hlt:id<H.length:=(List.getElem?_eq_some_iff.1 hg).1
 let σ':Sig:=fun b o=>if b=L.b∧L.o≤o∧o<L.o+cs.length then some (arr.getD o undef) else σ b o
 have hext:ExtS σ σ':=by
  intro b o v h
  show (if _ then _ else _)=_
  by_cases c:b=L.b∧L.o≤o∧o<L.o+cs.length
  ·obtain ⟨rfl,c2,c3⟩:=c
   rw [h6 o c2] at h;cases h
  ·rw [if_neg c];exact h
 have hin:∀ i,i<cs.length→σ' L.b (L.o+i)=some (arr.getD (L.o+i) undef):=by
  intro i hi
  show (if _ then _ else _)=_
  rw [if_pos ⟨rfl,by omega,by omega⟩]
 have hget:∀ (i:Nat) b,(H.set id .dead)[i]? =some b→b.live=true→H[i]? =some b∧i≠id:=by
  intro i b h hl
  rw [List.getElem?_set] at h
  by_cases e:id=i
  ·rw [if_pos e,if_pos (by omega)] at h;injection h with h;subst h;cases hl
  ·rw [if_neg e] at h;exact ⟨h,fun q=>e q.symm⟩
 refine ⟨σ',⟨.refl _,hext,rfl,rfl,rfl,Nat.le_refl _,fun _ _ _=>rfl,?_,?_⟩,⟨by simp,?_⟩,?_⟩
 ·rintro b ⟨i,blk,M,g1,g2,g3,g4⟩
  exact .inr ⟨i,blk,M,(hget _ _ g1 g2).1,g2,g3,g4⟩
 ·refine ⟨fun i M h=>by simpa using hr.dom i M h,hr.bnd,?_,?_,?_,?_⟩
  ·intro i b h hl
   obtain ⟨g1,g2⟩:=hget _ _ h hl
   obtain ⟨M,m1,m2⟩:=hr.blk i b g1 hl
   refine ⟨M,m1,m2.mono (.refl _) hext (fun j hj _ hn=>?_) rfl⟩
   show (if _ then _ else _)=_
   rw [if_neg (fun q=>g2 (hr.inj i id b _ M L g1 hl hg rfl m1 hp q.1))];exact hn
  ·intro i j b b' M M' g1 g2 g3 g4 g5 g6 g7
   exact hr.inj i j b b' M M' (hget _ _ g1 g2).1 g2 (hget _ _ g3 g4).1 g4 g5 g6 g7
  ·intro b o v h
   have h:(if b=L.b∧L.o≤o∧o<L.o+cs.length then some (arr.getD o undef) else σ b o)=some v:=h
   by_cases c:b=L.b∧L.o≤o∧o<L.o+cs.length
   ·rw [if_pos c] at h
    rw [c.1,cell_of_blk h1,getD_some (by have:=c.2;omega)];exact h
   ·rw [if_neg c] at h;exact hr.sig _ _ _ h
  ·intro i h
   rw [List.getElem?_set] at h
   by_cases e:id=i
   ·rw [if_pos e,if_pos (by omega)] at h;injection h with h;cases h
   ·rw [if_neg e] at h;exact hr.resv i h
 ·intro i h
  rw [List.getElem?_set]
  by_cases e:id=i
  ·subst e;rw [hg] at h;injection h with h;cases h
  ·rw [if_neg e];exact h
 ·intro v v' hs
  induction hs with
  | refl v=>intro c h;exact h.mono (.refl _) hext
  | sl off n sz xs hx hs hf hb =>
   intro c h
   cases h with
   | sl _ _ _ _ cap M hM hn hc =>
    rw [hp] at hM;injection hM with hM;subst hM
    have hfl:(flat xs).length=n*sz:=by rw [flat_len hs,hx]
    refine .list sz xs L.b (L.o+off) n cap (fun i=>arr.getD (L.o+off+i) undef) hs hx hn (fun i hi=>?_) fun i=>?_
    ·rw [Nat.add_assoc,hin (off+i) (by omega)]
    ·rw [hf,z2C]
     by_cases c:i<n*sz
     ·rw [if_pos c,Nat.add_assoc]
      exact (h5 (off+i) (by omega)).mono (.refl _) hext
     ·rw [if_neg c];exact .top _
  | ptr off ho =>
   intro c h
   cases h with
   | ptr _ _ M hM =>
    rw [hp] at hM;injection hM with hM;subst hM
    refine .cptr _ L.b (L.o+off) (fun i=>arr.getD (L.o+off+i) undef) (fun i hi=>?_) fun i=>?_
    ·rw [List.length_drop] at hi
     rw [Nat.add_assoc,hin (off+i) (by omega)]
    ·rw [List.getD_eq_getElem?_getD,List.getElem?_drop,←List.getD_eq_getElem?_getD]
     by_cases c:off+i<cs.length
     ·rw [Nat.add_assoc];exact (h5 (off+i) c).mono (.refl _) hext
     ·rw [List.getD_eq_getElem?_getD,List.getElem?_eq_none (by omega)];exact .top _
  | agg l l' hl r ih =>
   intro c h
   cases h with
   | agg _ cs' h1 h2=>exact .agg _ cs' (by omega) fun i=>ih i _ (h2 i)
  | tuple l l' hl r ih =>
   intro c h
   cases h with
   | tuple _ cs' h1 h2=>exact .tuple _ cs' (by omega) fun i=>ih i _ (h2 i)
  | iface t v v' r ih =>
   intro c h
   cases h with
   | iface _ _ u q=>exact .iface t _ u (ih _ q)
inductive Seals:AV→Heap→AV→Heap→Prop
 | done (v:AV) (H:Heap):Seals v H v H
 | step {v v' u:AV} {H K:Heap} (id:Nat) (cs:List AV) (hg:H[id]? =some (.cells cs)) (hs:SealR id cs v v') (h:Seals v' (H.set id .dead) u K):Seals v H u K
theorem step_seals {v u:AV} {K:Heap} (h:Seals v H u K):∀ {φ:Phi} {σ:Sig} {c:Value},HRel φ σ H w→VRel φ σ v c→∃ σ',Step φ σ H w φ σ' K w∧Keeps H K∧VRel φ σ' u c:=by
 induction h with
 | done v H=>intro φ σ c hr hv;exact ⟨σ,.refl hr,.refl _,hv⟩
 | step id cs hg hs h ih =>
  intro φ σ c hr hv
  obtain ⟨σ₁,s₁,k₁,t₁⟩:=step_seal hr hg
  obtain ⟨σ₂,s₂,k₂,t₂⟩:=ih s₁.hrel (t₁ _ _ hs _ hv)
  exact ⟨σ₂,s₁.trans s₂,k₁.trans k₂,t₂⟩
def Plain (v:AV):Prop:=∃ n,plainV n v=true
theorem plainV_le {n m:Nat} {v:AV} (h:plainV n v=true) (hm:n≤m):plainV m v=true:=by
 induction hm with
 | refl=>exact h
 | step _ ih=>exact plainV_mono ih
theorem Plain.bool (b:Bool):Plain (.bool b):=⟨1,rfl⟩
theorem Plain.int (k:IntKind) (n:Int):Plain (.int k n):=⟨1,rfl⟩
theorem Plain.str (s:List UInt8):Plain (.str s):=⟨1,rfl⟩
theorem Plain.nilslice:Plain .nilslice:=⟨1,rfl⟩
theorem Plain.top:Plain .top:=⟨1,rfl⟩
theorem plain_all:∀ {l:List AV},(∀ x∈l,Plain x)→∃ n,l.all (plainV n)=true
 | [],_=>⟨0,rfl⟩
 | x::l,h=>by
  obtain ⟨n,hn⟩:=h x (by simp)
  obtain ⟨m,hm⟩:=plain_all (l:=l) fun y hy=>h y (by simp [hy])
  refine ⟨n+m,?_⟩
  rw [List.all_cons,plainV_le hn (by omega),Bool.true_and,List.all_eq_true]
  exact fun y hy=>plainV_le (List.all_eq_true.1 hm y hy) (by omega)
theorem Plain.list (sz:Nat) {l:List AV} (h:∀ x∈l,Plain x):Plain (.list sz l):=by
 obtain ⟨n,hn⟩:=plain_all h;exact ⟨n+1,hn⟩
theorem Plain.agg {l:List AV} (h:∀ x∈l,Plain x):Plain (.agg l):=by
 obtain ⟨n,hn⟩:=plain_all h;exact ⟨n+1,hn⟩
theorem Plain.tuple {l:List AV} (h:∀ x∈l,Plain x):Plain (.tuple l):=by
 obtain ⟨n,hn⟩:=plain_all h;exact ⟨n+1,hn⟩
def Gives (H:Heap) (v:AV):CPost:=fun r H'=>∃ u G,r=.ret u∧Seals u H' v (H++G)∧Plain v
def Just (H:Heap) (v:AV):CPost:=fun r H'=>r=.ret v∧H'=H
theorem ACall.gives {f:FuncId} {args:List AV} {v:AV} (h:ACall P f args H (Gives H v)):ACall P f args H (Just H v):=by
 intro φ σ cargs w hr hc
 refine (h φ σ cargs w hr hc).mono ?_
 rintro e w' ⟨φ',σ',r,H',s,kp,rr,u,G,rfl,hs,n,hp⟩
 obtain ⟨c,rfl,hvc⟩:=rr
 obtain ⟨σ₂,s₂,k₂,t₂⟩:=step_seals hs s.hrel hvc
 exact ⟨_,σ₂,.ret v,H,step_forget hr (s.trans s₂),.refl _,⟨c,rfl,plainV_rel hp t₂⟩,rfl,rfl⟩
theorem ACall.sealArgs {f:FuncId} {args args':List AV} {Q:CPost} {id:Nat} {cs:List AV} (hg:H[id]? =some (.cells cs)) (hl:args.length=args'.length)
  (ha:∀ i,SealR id cs (args.getD i .top) (args'.getD i .top)) (h:ACall P f args' (H.set id .dead) Q):ACall P f args H Q:=by
 intro φ σ cargs w hr hc
 obtain ⟨σ₁,s₁,k₁,t₁⟩:=step_seal hr hg
 refine (h φ σ₁ cargs w s₁.hrel ⟨by rw [←hl];exact hc.1,fun i=>t₁ _ _ (ha i) _ (hc.2 i)⟩).mono ?_
 rintro e w' ⟨φ',σ',r,H',s,kp,rr,q⟩
 exact ⟨φ',σ',r,H',s₁.trans s,k₁.trans kp,rr,q⟩
theorem z2T {v:AV} {G:Heap} (hp:Plain v):Gives H v (.ret v) (H++G):=⟨v,G,rfl,.done _ _,hp⟩
end Go.Ab
