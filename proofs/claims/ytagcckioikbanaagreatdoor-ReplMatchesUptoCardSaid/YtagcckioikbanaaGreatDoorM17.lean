/- Part 17 of the proof. -/
import Derived.Test.YtagcckioikbanaaGreatDoorM16
set_option linter.unusedVariables false
set_option linter.unusedSimpArgs false
namespace Go.Ab
variable {P:Program} {φ φ':Phi} {σ σ':Sig} {H:z0B} {w w':World}
inductive SealR (id:Nat) (cs:List AV):AV→AV→Prop
 | refl (v:AV):SealR id cs v v
 | sl (off n sz:Nat) (xs:List AV) (hx:xs.length=n) (hs:∀ x∈xs,x.cells.length=sz) (hf:z0j xs=(cs.drop off).take (n*sz)) (hb:off+n*sz≤cs.length) :
   SealR id cs (.sl id off n sz) (.list sz xs)
 | ptr (off:Nat) (h:off≤cs.length):SealR id cs (.ptr id off) (.cptr (cs.drop off))
 | agg (l l':List AV) (h:l.length=l'.length) (r:∀ i,SealR id cs (l.getD i .top) (l'.getD i .top)):SealR id cs (.agg l) (.agg l')
 | tuple (l l':List AV) (h:l.length=l'.length) (r:∀ i,SealR id cs (l.getD i .top) (l'.getD i .top)):SealR id cs (.tuple l) (.tuple l')
 | iface (t:TypeId) (v v':AV) (r:SealR id cs v v'):SealR id cs (.iface t v) (.iface t v')
theorem z0y {sz:Nat}:∀ {xs:List AV},(∀ x∈xs,x.cells.length=sz)→(z0j xs).length=xs.length*sz
 | [],_=>by simp [z0j]
 | x::xs,h=>by
  have ih:=z0y (xs:=xs) (sz:=sz) fun y hy=>h y (by simp [hy])
  have h0:=h x (by simp)
  have e:z0j (x::xs)=x.cells++z0j xs:=rfl
  rw [e,lAH,ih,h0,lBE,lCH];omega
theorem z9z {id:Nat} {cs:List AV} (hr:HRel φ σ H w) (hg:H[id]? =some (.cells cs)) :
  ∃ σ',Step φ σ H w φ σ' (H.set id .dead) w∧z3a H (H.set id .dead)∧∀ v v',SealR id cs v v'→∀ c,VRel φ σ v c→VRel φ σ' v' c:=by
 obtain ⟨L,hp,arr,t,fr,h1,h2,h3,h4,h5,h6⟩:=hr.blk id _ hg rfl
 have hlt:id<H.length:=(lAA.1 hg).1
 let σ':Sig:=fun b o=>if b=L.b∧L.o≤o∧o<L.o+cs.length then some (arr.getD o undef) else σ b o
 have hext:zNS σ σ':=by
  intro b o v h
  show (if _ then _ else _)=_
  by_cases c:b=L.b∧L.o≤o∧o<L.o+cs.length
  ·obtain ⟨rfl,c2,c3⟩:=c
   rw [h6 o c2] at h;cases h
  ·rw [if_neg c];exact h
 have hin:∀ i,i<cs.length→σ' L.b (L.o+i)=some (arr.getD (L.o+i) undef):=by
  intro i hi
  show (if _ then _ else _)=_
  rw [if_pos ⟨rfl,by omega,by omega⟩]
 have hget:∀ (i:Nat) b,(H.set id .dead)[i]? =some b→b.live=true→H[i]? =some b∧i≠id:=by
  intro i b h hl
  rw [lA7] at h
  by_cases e:id=i
  ·rw [if_pos e,if_pos (by omega)] at h;injection h with h;subst h;cases hl
  ·rw [if_neg e] at h;exact ⟨h,fun q=>e q.symm⟩
 refine ⟨σ',⟨.refl _,hext,rfl,rfl,rfl,lAL _,fun _ _ _=>rfl,?_,?_⟩,⟨by simp,?_⟩,?_⟩
 ·rintro b ⟨i,blk,M,g1,g2,g3,g4⟩
  exact .inr ⟨i,blk,M,(hget _ _ g1 g2).1,g2,g3,g4⟩
 ·refine ⟨fun i M h=>by simpa using hr.dom i M h,hr.bnd,?_,?_,?_,?_⟩
  ·intro i b h hl
   obtain ⟨g1,g2⟩:=hget _ _ h hl
   obtain ⟨M,m1,m2⟩:=hr.blk i b g1 hl
   refine ⟨M,m1,m2.mono (.refl _) hext (fun j hj _ hn=>?_) rfl⟩
   show (if _ then _ else _)=_
   rw [if_neg (fun q=>g2 (hr.inj i id b _ M L g1 hl hg rfl m1 hp q.1))];exact hn
  ·intro i j b b' M M' g1 g2 g3 g4 g5 g6 g7
   exact hr.inj i j b b' M M' (hget _ _ g1 g2).1 g2 (hget _ _ g3 g4).1 g4 g5 g6 g7
  ·intro b o v h
   have h:(if b=L.b∧L.o≤o∧o<L.o+cs.length then some (arr.getD o undef) else σ b o)=some v:=h
   by_cases c:b=L.b∧L.o≤o∧o<L.o+cs.length
   ·rw [if_pos c] at h
    rw [c.1,z1h h1,getD_some (by have:=c.2;omega)];exact h
   ·rw [if_neg c] at h;exact hr.sig _ _ _ h
  ·intro i h
   rw [lA7] at h
   by_cases e:id=i
   ·rw [if_pos e,if_pos (by omega)] at h;injection h with h;cases h
   ·rw [if_neg e] at h;exact hr.resv i h
 ·intro i h
  rw [lA7]
  by_cases e:id=i
  ·subst e;rw [hg] at h;injection h with h;cases h
  ·rw [if_neg e];exact h
 ·intro v v' hs
  induction hs with
  | refl v=>intro c h;exact h.mono (.refl _) hext
  | sl off n sz xs hx hs hf hb =>
   intro c h
   cases h with
   | sl _ _ _ _ cap M hM hn hc =>
    rw [hp] at hM;injection hM with hM;subst hM
    have hfl:(z0j xs).length=n*sz:=by rw [z0y hs,hx]
    refine .list sz xs L.b (L.o+off) n cap (fun i=>arr.getD (L.o+off+i) undef) hs hx hn (fun i hi=>?_) fun i=>?_
    ·rw [lBK,hin (off+i) (by omega)]
    ·rw [hf,z1z]
     by_cases c:i<n*sz
     ·rw [if_pos c,lBK]
      exact (h5 (off+i) (by omega)).mono (.refl _) hext
     ·rw [if_neg c];exact .top _
  | ptr off ho =>
   intro c h
   cases h with
   | ptr _ _ M hM =>
    rw [hp] at hM;injection hM with hM;subst hM
    refine .cptr _ L.b (L.o+off) (fun i=>arr.getD (L.o+off+i) undef) (fun i hi=>?_) fun i=>?_
    ·rw [lC3] at hi
     rw [lBK,hin (off+i) (by omega)]
    ·rw [lAB,lDA,←lAB]
     by_cases c:off+i<cs.length
     ·rw [lBK];exact (h5 (off+i) c).mono (.refl _) hext
     ·rw [lAB,lBG (by omega)];exact .top _
  | agg l l' hl r ih =>
   intro c h
   cases h with
   | agg _ cs' h1 h2=>exact .agg _ cs' (by omega) fun i=>ih i _ (h2 i)
  | tuple l l' hl r ih =>
   intro c h
   cases h with
   | tuple _ cs' h1 h2=>exact .tuple _ cs' (by omega) fun i=>ih i _ (h2 i)
  | iface t v v' r ih =>
   intro c h
   cases h with
   | iface _ _ u q=>exact .iface t _ u (ih _ q)
inductive Seals:AV→z0B→AV→z0B→Prop
 | done (v:AV) (H:z0B):Seals v H v H
 | step {v v' u:AV} {H K:z0B} (id:Nat) (cs:List AV) (hg:H[id]? =some (.cells cs)) (hs:SealR id cs v v') (h:Seals v' (H.set id .dead) u K):Seals v H u K
theorem zJU {v u:AV} {K:z0B} (h:Seals v H u K):∀ {φ:Phi} {σ:Sig} {c:Value},HRel φ σ H w→VRel φ σ v c→∃ σ',Step φ σ H w φ σ' K w∧z3a H K∧VRel φ σ' u c:=by
 induction h with
 | done v H=>intro φ σ c hr hv;exact ⟨σ,.refl hr,.refl _,hv⟩
 | step id cs hg hs h ih =>
  intro φ σ c hr hv
  obtain ⟨σ₁,s₁,k₁,t₁⟩:=z9z hr hg
  obtain ⟨σ₂,s₂,k₂,t₂⟩:=ih s₁.hrel (t₁ _ _ hs _ hv)
  exact ⟨σ₂,s₁.trans s₂,k₁.trans k₂,t₂⟩
def z0N (v:AV):Prop:=∃ n,z1t n v=true
theorem zEZ {n m:Nat} {v:AV} (h:z1t n v=true) (hm:n≤m):z1t m v=true:=by
 induction hm with
 | refl=>exact h
 | step _ ih=>exact z7A ih
theorem z0N.bool (b:Bool):z0N (.bool b):=⟨1,rfl⟩
theorem z0N.int (k:IntKind) (n:Int):z0N (.int k n):=⟨1,rfl⟩
theorem z0N.str (s:List UInt8):z0N (.str s):=⟨1,rfl⟩
theorem z0N.nilslice:z0N .nilslice:=⟨1,rfl⟩
theorem z0N.top:z0N .top:=⟨1,rfl⟩
theorem z7n:∀ {l:List AV},(∀ x∈l,z0N x)→∃ n,l.all (z1t n)=true
 | [],_=>⟨0,rfl⟩
 | x::l,h=>by
  obtain ⟨n,hn⟩:=h x (by simp)
  obtain ⟨m,hm⟩:=z7n (l:=l) fun y hy=>h y (by simp [hy])
  refine ⟨n+m,?_⟩
  rw [lB4,zEZ hn (by omega),lCT,lAX]
  exact fun y hy=>zEZ (lAX.1 hm y hy) (by omega)
theorem z0N.list (sz:Nat) {l:List AV} (h:∀ x∈l,z0N x):z0N (.list sz l):=by
 obtain ⟨n,hn⟩:=z7n h;exact ⟨n+1,hn⟩
theorem z0N.agg {l:List AV} (h:∀ x∈l,z0N x):z0N (.agg l):=by
 obtain ⟨n,hn⟩:=z7n h;exact ⟨n+1,hn⟩
theorem z0N.tuple {l:List AV} (h:∀ x∈l,z0N x):z0N (.tuple l):=by
 obtain ⟨n,hn⟩:=z7n h;exact ⟨n+1,hn⟩
def zBS (H:z0B) (v:AV):z2U:=fun r H'=>∃ u G,r=.ret u∧Seals u H' v (H++G)∧z0N v
def z1A (H:z0B) (v:AV):z2U:=fun r H'=>r=.ret v∧H'=H
theorem z0D.gives {f:FuncId} {args:List AV} {v:AV} (h:z0D P f args H (zBS H v)):z0D P f args H (z1A H v):=by
 intro φ σ cargs w hr hc
 refine (h φ σ cargs w hr hc).mono ?_
 rintro e w' ⟨φ',σ',r,H',s,kp,rr,u,G,rfl,hs,n,hp⟩
 obtain ⟨c,rfl,hvc⟩:=rr
 obtain ⟨σ₂,s₂,k₂,t₂⟩:=zJU hs s.hrel hvc
 exact ⟨_,σ₂,.ret v,H,z6w hr (s.trans s₂),.refl _,⟨c,rfl,z6R hp t₂⟩,rfl,rfl⟩
theorem z0D.sealArgs {f:FuncId} {args args':List AV} {Q:z2U} {id:Nat} {cs:List AV} (hg:H[id]? =some (.cells cs)) (hl:args.length=args'.length)
  (ha:∀ i,SealR id cs (args.getD i .top) (args'.getD i .top)) (h:z0D P f args' (H.set id .dead) Q):z0D P f args H Q:=by
 intro φ σ cargs w hr hc
 obtain ⟨σ₁,s₁,k₁,t₁⟩:=z9z hr hg
 refine (h φ σ₁ cargs w s₁.hrel ⟨by rw [←hl];exact hc.1,fun i=>t₁ _ _ (ha i) _ (hc.2 i)⟩).mono ?_
 rintro e w' ⟨φ',σ',r,H',s,kp,rr,q⟩
 exact ⟨φ',σ',r,H',s₁.trans s,k₁.trans kp,rr,q⟩
theorem z2P {v:AV} {G:z0B} (hp:z0N v):zBS H v (.ret v) (H++G):=⟨v,G,rfl,.done _ _,hp⟩
theorem z0s {v:AV} (hp:z0N v):zBS H v (.ret v) H:=⟨v,[],rfl,by rw [lAK];exact .done _ _,hp⟩
end Go.Ab
