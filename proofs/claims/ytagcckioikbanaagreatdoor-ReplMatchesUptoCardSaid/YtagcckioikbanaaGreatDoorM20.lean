/- Part 20 of the proof. -/
import Derived.Test.YtagcckioikbanaaGreatDoorM18
set_option linter.unusedVariables false
set_option linter.unusedSimpArgs false
namespace Go.Ab
variable {P:Program} {φ φ':Phi} {σ σ':Sig} {H:z0B} {w w':World}
def z2p:Nat→AV→Bool
 | 0,_=>false
 | n+1,v=>match v with
  | .bool _ | .int _ _ | .str _ | .nilptr | .glob _ | .nilslice | .nilmap | .nilfunc | .niliface | .top=>true
  | .agg l | .tuple l=>l.all (z2p n)
  | _=>false
theorem zGC {n:Nat} {v:AV} (hp:z2p n v=true):∀ {c:Value},VRel φ σ v c→VRel φ' σ' v c:=by
 induction n generalizing v with
 | zero=>cases hp
 | succ n ih =>
  have each:∀ (l:List AV),l.all (z2p n)=true→∀ i c,VRel φ σ (l.getD i .top) c→VRel φ' σ' (l.getD i .top) c:=by
   intro l hl i c hc
   rcases lBB i l.length with h | h
   ·rw [lAB,lAG h] at hc ⊢
    exact ih (lAX.1 hl _ (lBT h)) hc
   ·rw [lAB,lBG h];exact .top _
  intro c hc
  cases hc with
  | top=>exact .top _
  | bool b=>exact .bool b
  | int k x=>exact .int k x
  | str l s h=>exact .str l s h
  | nilptr=>exact .nilptr
  | glob g=>exact .glob g
  | nilslice=>exact .nilslice
  | nilmap=>exact .nilmap
  | nilfunc=>exact .nilfunc
  | niliface=>exact .niliface
  | agg cs cs' h r=>exact .agg cs cs' h fun i=>each cs (by simpa only [z2p] using hp) i _ (r i)
  | tuple cs cs' h r=>exact .tuple cs cs' h fun i=>each cs (by simpa only [z2p] using hp) i _ (r i)
  | list sz xs b o k cap f hsz hx hn h r=>simp [z2p] at hp
  | elist sz a=>simp [z2p] at hp
  | ptr _ _ _ _=>simp [z2p] at hp
  | cptr _ _ _ _ _ _=>simp [z2p] at hp
  | sl _ _ _ _ _ _ _ _ _=>simp [z2p] at hp
  | map _ _ _=>simp [z2p] at hp
  | clo _ _ _ _ _ _ _ _ _=>simp [z2p] at hp
  | iface _ _ _ _=>simp [z2p] at hp
theorem zPf (hr:HRel φ σ H w):HRel (below 0 φ) σ [] w:=by
 have hn:∀ id,below 0 φ id=none:=fun id=>by unfold below;rw [if_neg (by omega)]
 exact ⟨fun id L h=>by (rw [hn] at h;cases h),fun id L h=>by (rw [hn] at h;cases h),fun id b h=>by simp at h,fun id id' b b' L L' h=>by simp at h,hr.sig,fun id h=>by simp at h⟩
theorem zKw {K:z0B} (hr:HRel φ σ H w) (s:Step (below 0 φ) σ [] w φ' σ' K w'):Step φ σ H w φ σ H w':=by
 have hb:∀ k,k<w.heap.size→w'.heap[k]? =w.heap[k]?:=fun k hk=>s.frame k hk (by rintro ⟨id,b,L,h,_⟩;simp at h)
 refine ⟨.refl _,.refl _,s.os,s.tape,s.output,s.size,fun b hlt _=>hb b hlt,fun b hb=>.inr hb,?_⟩
 refine ⟨hr.dom,fun id L hL=>lD7 (hr.bnd id L hL) s.size,?_,hr.inj,?_,hr.resv⟩
 ·intro id b hg hl
  obtain ⟨L,h1,h2⟩:=hr.blk id b hg hl
  exact ⟨L,h1,h2.mono (.refl _) (.refl _) (fun _ _ _ h=>h) (hb _ (hr.bnd _ _ h1))⟩
 ·intro b o v hs
  have:=hr.sig b o v hs
  rw [World.cell?_of_block (hb b (World.block_lt_of_cell? w _ this))];exact this
theorem z0D.over {f:FuncId} {args:List AV} {v:AV} {n m:Nat} (hv:z2p n v=true) (ha:args.all (z1t m)=true) {K:z0B} (h:z0D P f args [] (fun r H'=>r=.ret v∧H'=K)) :
  z0D P f args H (z1A H v):=by
 intro φ σ cargs w hr hc
 have hc':z8N (below 0 φ) σ args cargs:=by
  refine ⟨hc.1,fun i=>?_⟩
  have:=hc.2 i
  rcases lBB i args.length with h | h
  ·rw [lAB,lAG h] at this ⊢
   exact z6R (lAX.1 ha _ (lBT h)) this
  ·rw [lAB,lBG h];exact .top _
 refine (h (below 0 φ) σ cargs w (zPf hr) hc').mono ?_
 rintro e w' ⟨φ',σ',r,H',s,kp,rr,rfl,rfl⟩
 obtain ⟨c,rfl,hvc⟩:=rr
 exact ⟨φ,σ,.ret v,H,zKw hr s,.refl _,⟨c,rfl,zGC hv hvc⟩,rfl,rfl⟩
end Go.Ab
