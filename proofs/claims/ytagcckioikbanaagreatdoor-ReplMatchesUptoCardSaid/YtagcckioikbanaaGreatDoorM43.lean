/- Part 43 of the proof. -/
import Derived.Test.YtagcckioikbanaaGreatDoorM42
set_option linter.unusedVariables false
set_option linter.unusedSimpArgs false
namespace Go.Ab
open Go
set_option maxRecDepth 100000
set_option maxHeartbeats 16000000
mutual
def z3P:Ex→List Ex
 | .mk op s nl l=>.mk op s nl l::z5D l
def z5D:List Ex→List Ex
 | []=>[]
 | x::l=>z3P x++z5D l
end
def Ex.opR:Ex→Int | .mk op _ _ _=>op
def Ex.sy:Ex→Bt | .mk _ s _ _=>s
def Ex.kids:Ex→List Ex | .mk _ _ _ l=>l
theorem z4Y (e:Ex):(z3P e).length=e.size:=by
 induction e using Ex.rec (motive_2:=fun l=>(z5D l).length=z0V l) with
 | mk op s nl l ih=>simp only [z3P,lBE,Ex.size,ih];omega
 | nil=>rfl
 | cons x l h1 h2=>simp only [z5D,lAH,h1,h2,z0V]
theorem zMN (e:Ex):∀ (n j:Nat) (x:Ex),(z3P e)[j]? =some x→(z4u n e)[j]? =some (x.opR,x.sy,z2g (n+j+1) x.kids):=by
 induction e using Ex.rec (motive_2:=fun l=>∀ (n j:Nat) (x:Ex),(z5D l)[j]? =some x→(z4D n l)[j]? =some (x.opR,x.sy,z2g (n+j+1) x.kids)) with
 | mk op s nl l ih =>
  intro n j x h
  simp only [z3P,z4u] at h ⊢
  cases j with
  | zero =>
   simp only [lA0,Option.some.injEq] at h ⊢
   subst h;rfl
  | succ j =>
   simp only [lBD] at h ⊢
   rw [ih (n+1) j x h,show n+1+j+1=n+(j+1)+1 by omega]
 | nil=>rename_i n j x h;simp [z5D] at h
 | cons y l h1 h2 =>
  rename_i n j x h
  simp only [z5D,z4D] at h ⊢
  rcases lBB j (z3P y).length with hj | hj
  ·rw [lAN hj] at h
   rw [lAN (by rw [z6U,←z4Y];exact hj)]
   exact h1 n j x h
  ·rw [lAJ hj] at h
   rw [lAJ (by rw [z6U,←z4Y];exact hj),z6U,←z4Y]
   rw [h2 (n+(z3P y).length) _ x h,show n+(z3P y).length+(j-(z3P y).length)+1=n+j+1 by omega]
theorem zDt:∀ {l:List Ex} {i:Nat} {c:Ex},l[i]? =some c→∃ r,z5D l=z5D (l.take i)++(z3P c++r)
 | y::l,0,c,h=>by
  simp only [lA0,Option.some.injEq] at h
  subst h
  exact ⟨z5D l,rfl⟩
 | y::l,i+1,c,h=>by
  simp only [lBD] at h
  obtain ⟨r,e⟩:=zDt h
  exact ⟨r,by simp only [z5D,lBQ,e,lA2]⟩
theorem z9x:∀ l:List Ex,(z5D l).length=z0V l
 | []=>rfl
 | x::l=>by simp only [z5D,lAH,z4Y,z9x l,z0V]
theorem zEk:∀ {l:List Ex} {i:Nat} (n:Nat),i<l.length→(z2g n l)[i]? =some (n+z0V (l.take i))
 | y::l,0,n,h=>rfl
 | y::l,i+1,n,h=>by
  simp only [z2g,lBD,lBQ,z0V]
  rw [zEk (n+y.size) (by simpa using h),lBK]
theorem z6K (e:Ex):(z3P e)[0]? =some e:=by
 obtain ⟨a,b,c,d⟩:=e
 rfl
theorem zRA (e:Ex):∀ (j:Nat) (x:Ex) (i:Nat) (c:Ex),(z3P e)[j]? =some x→x.kids[i]? =some c→(z3P e)[j+1+z0V (x.kids.take i)]? =some c:=by
 have base:∀ (x:Ex) (i:Nat) (c:Ex),x.kids[i]? =some c→(z3P x)[1+z0V (x.kids.take i)]? =some c:=by
  intro x i c h
  obtain ⟨op,s,nl,l⟩:=x
  simp only [Ex.kids] at h ⊢
  obtain ⟨r,e⟩:=zDt h
  simp only [z3P]
  rw [Nat.add_comm,lBD,e,lAJ (by rw [z9x];exact lAL _),z9x,lBJ,lAN (by rw [z4Y];obtain ⟨_,_,_,_⟩:=c;simp only [Ex.size];omega)]
  exact z6K c
 induction e using Ex.rec (motive_2:=fun l=>∀ (j:Nat) (x:Ex) (i:Nat) (c:Ex),(z5D l)[j]? =some x→x.kids[i]? =some c→(z5D l)[j+1+z0V (x.kids.take i)]? =some c) with
 | mk op s nl l ih =>
  intro j x i c h hc
  cases j with
  | zero =>
   rw [z6K] at h
   injection h with h
   subst h
   rw [lBN]
   exact base _ i c hc
  | succ j =>
   simp only [z3P,lBD] at h ⊢
   have:=ih j x i c h hc
   rw [show j+1+1+z0V (x.kids.take i)=(j+1+z0V (x.kids.take i))+1 by omega,lBD]
   exact this
 | nil=>rename_i j x i c h hc;simp [z5D] at h
 | cons y l h1 h2 =>
  rename_i j x i c h hc
  simp only [z5D] at h ⊢
  rcases lBB j (z3P y).length with hj | hj
  ·rw [lAN hj] at h
   have:=h1 j x i c h hc
   rw [lAN (lAA.1 this).1]
   exact this
  ·rw [lAJ hj] at h
   have:=h2 _ x i c h hc
   rw [lAJ (by omega),show j+1+z0V (x.kids.take i)-(z3P y).length=j-(z3P y).length+1+z0V (x.kids.take i) by omega]
   exact this
abbrev zBK:Bt→List Bt:=fun t=>[t]
def DR (e:Ex) (k:Nat) (w:List Bt):Bool:=match (z3P e)[k]? with
 | some x=>z5c zBK x w
 | none=>false
theorem zSE {op:Int} {s t:List Bt} {fs:List (List Bt→Bool)} {w:List Bt} (h:op=0→s=t):z2C op s fs w=z2C op t fs w:=by
 unfold z2C
 by_cases h0:op=0
 ·simp only [if_pos h0,h h0]
 ·simp only [if_neg h0]
def zMW (e:Ex):Prop:=∀ x∈z3P e,Form x.opR x.kids.length∧x.kids.length≤1000
theorem zFh {e:Ex} {mid:Nat} {iv:AV} (hiv:Sl 3 iv ((z4u 0 e).map z5Z)) (hf:zMW e) (hsz:e.size≤100):∀ (x:Ex) (j:Nat),(z3P e)[j]? =some x→z8P (DR e) mid (.cptr [iv,.map mid]) j (z5c zBK x):=by
 intro x
 induction x using Ex.rec (motive_2:=fun l=>∀ c∈l,∀ j,(z3P e)[j]? =some c→z8P (DR e) mid (.cptr [iv,.map mid]) j (z5c zBK c)) with
 | mk op s nl l ih =>
  intro j hj
  have hjl:=(lAA.1 hj).1
  rw [z4Y] at hjl
  have hD:DR e j=z5c zBK (.mk op s nl l):=by
   funext w
   simp only [DR,hj]
  rw [←hD]
  have hit:=zMN e 0 j _ hj
  simp only [Ex.opR,Ex.sy,Ex.kids,lBN] at hit
  obtain ⟨hform,hkl⟩:=hf _ (lAF hj)
  simp only [Ex.opR,Ex.kids] at hform hkl
  have hnl:(z2g (j+1) l).length=l.length:=zAZ l _
  refine a248 (s:=s) (op:=op) (kv:=z3Y (z2g (j+1) l)) hiv (by rw [lAM,hit];rfl) (by omega) fun H wv w hs hg hw ha=>?_
  have hd:DR e j w=z2C op [s] (l.map (z5c zBK)) w:=by
   rw [hD]
   simp only [z5c,zAx]
   exact zSE fun h=>by rw [if_pos h]
  rw [hd]
  refine a266 (zHM _) ⟨by rw [hnl,lAE],fun i k f hk hf'=>?_⟩ (by rw [hnl];omega) (by rw [hnl];exact hform) hs hg hw ha
  have hi:=(lAA.1 hk).1
  rw [hnl] at hi
  rw [zEk _ hi] at hk
  injection hk with hk
  rw [lAM] at hf'
  cases hc:l[i]? with
  | none=>rw [hc] at hf';cases hf'
  | some c =>
   rw [hc] at hf'
   injection hf' with hf'
   subst hf';subst hk
   exact ih c (lAF hc) _ (zRA e j _ i c hj hc)
 | nil=>rename_i c hc _ _;cases hc
 | cons y l h1 h2 =>
  rename_i c hc j hj
  rcases lAT.1 hc with rfl | hc
  ·exact h1 j hj
  ·exact h2 c hc j hj
structure AskMs (L:List (Nat × (z3t→Prop))) (H H':z0B):Prop where
 at_:∀ p∈L,∃ es c,p.2 es∧H'[p.1]? =some (.map es c)
 old:∀ (j:Nat) (b:Blk),(∀ p∈L,p.1≠j)→H[j]? =some b→H'[j]? =some b
 len:H.length≤H'.length
theorem zEp {β:Type}:∀ {L:List (Nat × β)} {p q:Nat × β},(L.map Prod.fst).Nodup→p∈L→q∈L→p.1=q.1→p=q
 | x::L,p,q,hn,hp,hq,e=>by
  rw [lA6,List.nodup_cons] at hn
  rcases lAT.1 hp with hp1 | hp1
  ·rcases lAT.1 hq with hq1 | hq1
   ·rw [hp1,hq1]
   ·exact absurd (by rw [←hp1,e];exact lDM hq1) hn.1
  ·rcases lAT.1 hq with hq1 | hq1
   ·exact absurd (by rw [←hq1,←e];exact lDM hp1) hn.1
   ·exact zEp hn.2 hp1 hq1 e
section askms
variable {L:List (Nat × (z3t→Prop))} {X Y Z:z0B}
theorem AskMs.trans (h:AskMs L X Y) (k:AskMs L Y Z):AskMs L X Z:=⟨k.at_,fun j b h1 h2=>k.old j b h1 (h.old j b h1 h2),lBM h.len k.len⟩
theorem AskMs.self (h:AskMs L X Y):AskMs L Y Y:=⟨h.at_,fun _ _ _ h=>h,lAL _⟩
theorem AskMs.get (h:AskMs L X Y) {mid:Nat} {V:z3t→Prop} (hm:(mid,V)∈L):z3U V mid Y Y:=by
 obtain ⟨es,c,hv,hg⟩:=h.at_ _ hm
 exact ⟨es,c,hv,Mod.refl hg⟩
theorem AskMs.step (h:AskMs L X Y) (hn:(L.map Prod.fst).Nodup) {mid:Nat} {V:z3t→Prop} (hm:(mid,V)∈L) (k:z3U V mid Y Z):AskMs L X Z:=by
 obtain ⟨es,c,hv,m⟩:=k
 refine ⟨fun p hp=>?_,fun j b h1 h2=>m.old j b (fun e=>h1 _ hm e.symm) (h.old j b h1 h2),lBM h.len m.len⟩
 by_cases e:p.1=mid
 ·have:p=(mid,V):=zEp hn hp hm e
  subst this
  exact ⟨es,c,hv,m.get⟩
 ·obtain ⟨es',c',hv',hg⟩:=h.at_ p hp
  exact ⟨es',c',hv',m.old _ _ e hg⟩
theorem AskMs.app (h:AskMs L X Y) (G:z0B):AskMs L X (Y++G):=⟨fun p hp=>by
 obtain ⟨es,c,a,b⟩:=h.at_ p hp
 exact ⟨es,c,a,z0G b⟩,fun j b h1 h2=>z0G (h.old j b h1 h2),by have:=h.len;simp;omega⟩
theorem AskMs.own (h:AskMs L X Y) {id:Nat} {x:Blk} (h1:X.length≤id) (h2:∀ p∈L,p.1≠id):AskMs L X (Y.set id x):=⟨fun p hp=>by
 obtain ⟨es,c,a,b⟩:=h.at_ p hp
 exact ⟨es,c,a,z0J b fun e=>h2 p hp e.symm⟩,fun j b h3 h4=>z0J (h.old j b h3 h4) (by have:=(lAA.1 h4).1;omega),by have:=h.len;simpa using this⟩
theorem AskMs.pres (h:AskMs L X Y) (hp:∀ (j:Nat) (b:Blk),(∀ p∈L,p.1≠j)→j<X.length→Y[j]? =some b→Z[j]? =some b) (hm:∀ p∈L,∀ b,Y[p.1]? =some b→Z[p.1]? =some b) (hl:Y.length≤Z.length):AskMs L X Z :=
 ⟨fun p hq=>by
  obtain ⟨es,c,a,b⟩:=h.at_ p hq
  exact ⟨es,c,a,hm p hq _ b⟩,fun j b h1 h2=>hp j b h1 (lAA.1 h2).1 (h.old j b h1 h2),lBM h.len hl⟩
end askms
def zKh (e:Ex) (m:Nat):AV:=.cptr [.list 3 ((z4u 0 e).map z5Z),.map m]
def plA (p:Pl) (m:Nat × Nat):AV:=.agg [zKh p.1 m.1,zKh p.2 m.2]
def z3f (l:List Pl) (ms:List (Nat × Nat)):List (Nat × (z3t→Prop)):=(l.zip ms).flatMap fun q=>[(q.2.1,z1M (DR q.1.1)),(q.2.2,z1M (DR q.1.2))]
theorem zEv:∀ (l:List Pl) (ms:List (Nat × Nat)),ms.length=l.length→(z3f l ms).map Prod.fst=ms.flatMap fun m=>[m.1,m.2]
 | [],[],_=>rfl
 | p::l,m::ms,h=>by
  have:=zEv l ms (by simpa using h)
  unfold z3f at this ⊢
  simp only [List.zip_cons_cons,lBU,lBP,this];rfl
theorem zEL {O:AV→Prop} {H H':z0B} (h:∀ (j:Nat) (b:Blk),H[j]? =some b→H'[j]? =some b):∀ (n:Option Nat) (x v:AV),O x→z0h n x H=some v→z0h n x H'=some v:=by
 intro n x v _ hl
 cases x with
 | ptr j off =>
  simp only [z0h] at hl ⊢
  cases hg:H[j]? with
  | none=>rw [hg] at hl;simp at hl
  | some c =>
   rw [hg] at hl
   rw [h _ _ hg]
   exact hl
 | _=>exact hl
theorem zNZ {l:List Pl} {ms:List (Nat × Nat)} {i:Nat} {p:Pl} {m:Nat × Nat} (h:l[i]? =some p) (hm:ms.length=i):List.zipWith plA (l.take (i+1)) (ms++[m])=List.zipWith plA (l.take i) ms++[plA p m]:=by
 have hi:=(lAA.1 h).1
 rw [lBA,h,List.zipWith_append (by rw [lCW];omega)];rfl
theorem a34 (r:Ru) (hn:r.places.length≤1000) (hok:∀ p∈r.places,okE p.1∧okE p.2∧p.1.size≤100∧p.2.size≤100) (H:z0B) :
  z0D PP 31 [z6e r] H (zNU (fun v H'=>∃ ms plv,v=.cptr [.int .i64 r.kind,z0T r.pn r.pairs,z0U r.ln r.places,.bool r.below,plv]∧ms.length=r.places.length∧Sl 2 plv (List.zipWith plA r.places ms)∧((z3f r.places ms).map Prod.fst).Nodup∧AskMs (z3f r.places ms) H' H' ∧
   (∀ p∈z3f r.places ms,H.length≤p.1)∧(∀ (j:Nat) (b:Blk),H[j]? =some b→H'[j]? =some b)) (fun _ _=>False)):=by
 obtain ⟨kind,pn,pairs,ln,places,below⟩:=r
 simp only at hn hok
 refine z0D.sealed (n:=H.length) ?_
 refine is31.c1 z0R mixed rfl ?_
 rw [lAK]
 unfold z6e
 simp only
 refine z1e (z0c ?_)
 refine z1E (.agg [.int .i64 kind,z0T pn pairs,z0U ln places,.bool below]) rfl (by simp only [AV.shaped,z2E,z2F];first | done | rfl) ?_
 have x1:(H++[Blk.cells [.int .i64 kind,z0T pn pairs,z0U ln places,.bool below]])[H.length]? =some (.cells [.int .i64 kind,z0T pn pairs,z0U ln places,.bool below]):=z0K
 have xo:∀ (j:Nat) (b:Blk),H[j]? =some b→(H++[Blk.cells [.int .i64 kind,z0T pn pairs,z0U ln places,.bool below]])[j]? =some b:=fun j b h=>z0G h
 have xl:(H++[Blk.cells [.int .i64 kind,z0T pn pairs,z0U ln places,.bool below]]:z0B).length=H.length+1:=by simp
 show VV _ _ _ (H++[Blk.cells [.int .i64 kind,z0T pn pairs,z0U ln places,.bool below]]) _ _
 generalize (H++[Blk.cells [.int .i64 kind,z0T pn pairs,z0U ln places,.bool below]]:z0B)=X at *
 refine z0A ?_
 refine z1w (out:=[.int .i64 kind,z0T pn pairs,z0U ln places,.bool below,.nilslice]) rfl rfl ?_
 refine z1E (.agg [.int .i64 kind,z0T pn pairs,z0U ln places,.bool below,.nilslice]) rfl (by simp only [AV.shaped,z2E,z2F];first | done | rfl) ?_
 have y2:(X++[Blk.cells [.int .i64 kind,z0T pn pairs,z0U ln places,.bool below,.nilslice]])[H.length+1]? =some (.cells [.int .i64 kind,z0T pn pairs,z0U ln places,.bool below,.nilslice]):=by rw [←xl];exact z0K
 have y1:=z0G (G:=[Blk.cells [.int .i64 kind,z0T pn pairs,z0U ln places,.bool below,.nilslice]]) x1
 have yo:∀ (j:Nat) (b:Blk),H[j]? =some b→(X++[Blk.cells [.int .i64 kind,z0T pn pairs,z0U ln places,.bool below,.nilslice]])[j]? =some b:=fun j b h=>z0G (xo j b h)
 have yl:(X++[Blk.cells [.int .i64 kind,z0T pn pairs,z0U ln places,.bool below,.nilslice]]:z0B).length=H.length+2:=by simp [xl]
 rw [xl]
 show VV _ _ _ (X++[Blk.cells [.int .i64 kind,z0T pn pairs,z0U ln places,.bool below,.nilslice]]) _ _
 generalize (X++[Blk.cells [.int .i64 kind,z0T pn pairs,z0U ln places,.bool below,.nilslice]]:z0B)=Y at *
 clear x1 xo xl X
 have hsL:=zGB ln places
 have hlL:(places.map z0x).length=places.length:=lAE _
 refine z0A ?_
 refine z0F places.length (fun i al W=>al=[(1,.ptr H.length 0),(3,.ptr (H.length+1) 0),(4,.int .i64 i)]∧∃ ms pv,ms.length=i∧(∀ (j:Nat) (b:Blk),H[j]? =some b→W[j]? =some b)∧W[H.length]? =some (.cells [.int .i64 kind,z0T pn pairs,z0U ln places,.bool below]) ∧
  W[H.length+1]? =some (.cells [.int .i64 kind,z0T pn pairs,z0U ln places,.bool below,pv])∧z3v 2 (H.length+2) W pv (List.zipWith plA (places.take i) ms)∧(∀ m∈ms,W[m.1]? =some (.map [] 0)∧W[m.2]? =some (.map [] 0)∧H.length≤m.1∧H.length≤m.2)∧(ms.flatMap fun m=>[m.1,m.2]).Nodup∧H.length+2≤W.length)
  ⟨rfl,[],.nilslice,rfl,yo,y1,y2,z3v.nil,fun m hm=>(by cases hm),by simp,by omega⟩ ?_
 clear y1 y2 yo yl Y
 rintro i _ W hi ⟨rfl,ms,pv,hml,wo,w1,w2,wp,wm,wn,wl⟩
 have e1:decide ((i:Int)<((places.map z0x).length:Int))=decide (i<places.length):=by rw [hlL];simp only [lAP];omega
 refine z0A ?_
 rw [e1]
 cases hc:decide (i<places.length)
 ·simp only [lAC] at hc
  have htk:places.take i=places:=lAS (by omega)
  rw [htk] at wp
  have hmll:ms.length=places.length:=by omega
  refine z0A ?_
  have hHl:∀ (j:Nat) (b:Blk),H[j]? =some b→j<H.length:=fun j b h=>(lAA.1 h).1
  have hfst:=zEv places ms hmll
  have hmem:∀ p∈z3f places ms,W[p.1]? =some (.map [] 0)∧H.length≤p.1∧∃ D,p.2=z1M D:=fun p hp=>by
   unfold z3f at hp
   obtain ⟨q,hq,hp⟩:=lBW.1 hp
   obtain ⟨a,b,c,d⟩:=wm q.2 (List.of_mem_zip hq).2
   simp only [lAT,lA5,or_false] at hp
   rcases hp with rfl | rfl
   ·exact ⟨a,c,_,rfl⟩
   ·exact ⟨b,d,_,rfl⟩
  have fin:∀ K:z0B,(∀ (j:Nat) (b:Blk),(∀ cs,b≠.cells cs)∨j<H.length→W[j]? =some b→K[j]? =some b)→AskMs (z3f places ms) K K∧(∀ p∈z3f places ms,H.length≤p.1)∧(∀ (j:Nat) (b:Blk),H[j]? =some b→K[j]? =some b):=fun K hK=>⟨⟨fun p hp=>by
    obtain ⟨a,_,D,e⟩:=hmem p hp
    exact ⟨[],0,by rw [e];exact fun e he=>(by cases he),hK _ _ (.inl fun cs=>by simp) a⟩,fun _ _ _ h=>h,lAL _⟩,fun p hp=>(hmem p hp).2.1,fun j b h=>hK j b (.inr (hHl j b h)) (wo j b h)⟩
  obtain ⟨hp0,⟨he,rfl⟩ | ⟨pk,rfl,gp,hpk,_⟩⟩:=wp
  ·obtain ⟨f1,f2,f3⟩:=fin (W.set (H.length+1) .dead) fun j b h1 h2=>z0J h2 fun e=>by
    subst e
    rcases h1 with h1 | h1
    ·rw [w2] at h2;injection h2 with h2;exact h1 _ h2.symm
    ·omega
   exact z0Y rfl (.inl ⟨_,_,W.set (H.length+1) .dead,rfl,.step (H.length+1) _ (by omega) w2 (.base _ _ (.ptr 0 (by simp))) (.done _ _),ms,.nilslice,rfl,hmll,by rw [he];exact .nil,by rw [hfst];exact wn,f1,f2,f3⟩)
  ·have gp2:=z0J (i:=H.length+1) (c:=.dead) gp (by omega)
   obtain ⟨f1,f2,f3⟩:=fin ((W.set (H.length+1) .dead).set pk .dead) fun j b h1 h2=>z0J (z0J h2 fun e=>by
    subst e
    rcases h1 with h1 | h1
    ·rw [w2] at h2;injection h2 with h2;exact h1 _ h2.symm
    ·omega) fun e=>by
    subst e
    rcases h1 with h1 | h1
    ·rw [gp] at h2;injection h2 with h2;exact h1 _ h2.symm
    ·omega
   refine z0Y rfl (.inl ⟨_,_,(W.set (H.length+1) .dead).set pk .dead,rfl,.step (H.length+1) _ (by omega) w2 (.base _ _ (.ptr 0 (by simp))) (.step pk _ (by omega) gp2 (.cptr _ [.int .i64 kind,z0T pn pairs,z0U ln places,.bool below,.list 2 (List.zipWith plA places ms)] rfl fun i=>?_) (.done _ _)),ms,.list 2 (List.zipWith plA places ms),rfl,hmll,.list _,by rw [hfst];exact wn,f1,f2,f3⟩)
   match i with
   | 0=>exact .refl _
   | 1=>exact .refl _
   | 2=>exact .refl _
   | 3=>exact .refl _
   | 4=>exact .base _ _ (.sl 0 _ 2 (List.zipWith plA places ms) rfl hp0 (by rw [lBL,←z0y hp0,lAW]) (by rw [z0y hp0];omega))
   | i+5=>exact .refl _
 simp only [lAD] at hc
 obtain ⟨p,hp⟩:=z0M (l:=places) (i:=i) hc
 obtain ⟨ok1,ok2,sz1,sz2⟩:=hok p (lAF hp)
 have hzs:=fun m=>zNZ (m:=m) hp hml
 have k1:=a74 p.1 ok1 (by omega)
 have k2:=a74 p.2 ok2 (by omega)
 obtain ⟨⟨op,s,nl,l⟩,op2,s2,nl2,l2⟩:=p
 have hu:(places.map z0x)[i]? =some (.agg [.int .i64 op,.str s,lst nl l,.int .i64 op2,.str s2,lst nl2 l2]):=z0q (f:=z0x) hp
 simp only [z0a] at k1 k2
 refine z0A ?_
 refine z3k (z2r [H.length,H.length+1]) ?_
 refine z5e ?_
 refine zDm rfl rfl (lAL _) ?_
 refine z0L (args:=[.agg [.int .i64 op,.str s,lst nl l]]) rfl (k1 W) ?_ ?_
 rotate_left
 ·rintro u V' (⟨v,hu,_⟩ | ⟨p,_,hf⟩)
  ·cases hu
  ·exact hf
 rintro u W1 (⟨v,hu,hv,u1,u2,u3⟩ | ⟨p,hu,_⟩)
 rotate_left
 ·cases hu
 cases hu
 subst hv
 refine z1b (zEL u1) ?_
 refine zDm rfl rfl (by omega) ?_
 refine z0L (args:=[.agg [.int .i64 op2,.str s2,lst nl2 l2]]) rfl (k2 W1) ?_ ?_
 rotate_left
 ·rintro u V' (⟨v,hu,_⟩ | ⟨p,_,hf⟩)
  ·cases hu
  ·exact hf
 rintro u W2 (⟨v,hu,hv,q1,q2,q3⟩ | ⟨p,hu,_⟩)
 rotate_left
 ·cases hu
 cases hu
 subst hv
 refine z1b (zEL q1) ?_
 have zo:∀ (j:Nat) (b:Blk),W[j]? =some b→W2[j]? =some b:=fun j b h=>q1 _ _ (u1 _ _ h)
 have z1:=zo _ _ w1
 have z2:=zo _ _ w2
 have zp:=wp.mono (K:=W2) fun j b _ h=>zo j b h
 have zm1:=q1 _ _ u2
 have zl:H.length+2≤W2.length:=by omega
 have hW2:W2.length≤W2.length:=lAL _
 refine z5e ?_
 refine z1w (out:=[zKh (.mk op s nl l) (W.length+1),zKh (.mk op2 s2 nl2 l2) (W1.length+1)]) rfl rfl ?_
 refine z5e ?_
 refine zDm rfl rfl (by omega) ?_
 refine z0Z (out:=[zKh (.mk op s nl l) (W.length+1),zKh (.mk op2 s2 nl2 l2) (W1.length+1)]) rfl ?_
 refine z1b z2v ?_
 refine zDm rfl rfl (by simp;omega) ?_
 have hzl:(List.zipWith plA (places.take i) ms).length≤1000:=by
  rw [List.length_zipWith];omega
 have nlo:∀ j,j<H.length+2→∀ k,pv≠.sl j 0 k 2:=fun j hj=>zp.ne hj
 refine zHL (v:=pv) rfl zp rfl rfl rfl (by omega) zl ?_
 intro pv' Z hko hpres hlen hfr
 have hko2:=hzs (W.length+1,W1.length+1)
 have hko:z3v 2 (H.length+2) Z pv' (List.zipWith plA (places.take (i+1)) (ms++[(W.length+1,W1.length+1)])):=by rw [hko2];exact hko
 have g1:=hpres _ _ (nlo _ (by omega)) z1
 have g2:=hpres _ _ (nlo _ (by omega)) z2
 have hmap:∀ (j:Nat),W2[j]? =some (.map [] 0)→Z[j]? =some (.map [] 0):=fun j h=>hpres j _ (fun k e=>by
  rcases zp.2 with ⟨_,e2⟩ | ⟨kb,e2,g,_,_⟩
  ·rw [e2] at e;cases e
  ·rw [e2] at e
   injection e with e
   subst e
   rw [g] at h;cases h) h
 refine z1b (z1K fun j hj b hb'=>?_) ?_
 ·simp only [lAT,lA5,or_false] at hj
  have hjl:j<W2.length:=by omega
  rw [lAN hjl] at hb'
  exact hpres _ _ (nlo _ (by omega)) hb'
 refine z5e ?_
 refine zQN rfl rfl rfl (by omega) ?_
 refine zLD (p:=0+4) hko.shape rfl rfl g2 (by simp) ?_
 refine z3y ?_
 refine z5e ?_
 have hHl:∀ (j:Nat) (b:Blk),H[j]? =some b→j<H.length:=fun j b h=>(lAA.1 h).1
 have hml2:∀ m∈ms,m.1<W.length∧m.2<W.length:=fun m hm=>⟨(lAA.1 (wm m hm).1).1,(lAA.1 (wm m hm).2.1).1⟩
 refine ⟨hc,rfl,ms++[(W.length+1,W1.length+1)],pv',by simp [hml],fun j b h=>?_,z0J g1 (by omega),lAU (by omega),hko.mono fun j b h1 h2=>z0J h2 (by omega),fun m hm=>?_,?_,by simp;omega⟩
 ·have hj:=hHl j b h
  exact z0J (hpres j b (nlo _ (by omega)) (zo j b (wo j b h))) (by omega)
 ·rcases lBF.1 hm with hm | hm
  ·obtain ⟨a,b,c,d⟩:=wm m hm
   have hne:∀ j,W[j]? =some (.map [] 0)→H.length+1≠j:=fun j h e=>by
    subst e
    rw [w2] at h;cases h
   exact ⟨z0J (hmap _ (zo _ _ a)) (hne _ a),z0J (hmap _ (zo _ _ b)) (hne _ b),c,d⟩
  ·simp only [lA1] at hm
   subst hm
   exact ⟨z0J (hmap _ zm1) (by simp only;omega),z0J (hmap _ q2) (by simp only;omega),by simp only;omega,by simp only;omega⟩
 ·rw [lBZ,List.nodup_append]
  refine ⟨wn,?_,fun a ha b hb e=>?_⟩
  ·simp;omega
  ·obtain ⟨m,hm,ha⟩:=lBW.1 ha
   obtain ⟨h1,h2⟩:=hml2 m hm
   simp only [lBU,lDN,lAK,lAT,lA5,or_false] at ha hb
   rcases ha with rfl | rfl<;>rcases hb with rfl | rfl<;>omega
theorem zFw {P:Program} {H:z0B} {al:AL} {K:KL} {Qp:AL→AV→z0B→Prop} {os:List IOper} {d:Nat} {x:Arg} {as_:List Arg} {sz:Nat} {lo hi:Bool} {wv:AV} {xs:List AV} {bs:List AV} {a b:Nat}
  (hx:evL al x=wv) (hs:Sl sz wv xs) (ha:z0u al as_=bs) (hb:z2f xs.length lo hi bs=some (a,b)) (h:∀ v,Sl sz v ((xs.drop a).take (b-a))→VV P os ((d,v)::al) H K Qp) :
  VV P (⟨some d,.i (.d (.sliceSl sz lo hi)),x::as_,none,none⟩::os) al H K Qp:=by
 cases hs with
 | nil =>
  refine z2S (v:=.nilslice) ?_ (h _ (by simpa using Sl.nil))
  have:z2f 0 lo hi bs=some (a,b):=hb
  simp only [z0u,hx,ha,z1W,z8G,this]
 | list =>
  refine z2S (v:=.list sz ((xs.drop a).take (b-a))) ?_ (h _ (.list _))
  simp only [z0u,hx,ha,z1W,z8G,if_true,hb]
theorem zCk {v:AV} {w:List Bt} {i j:Nat} (h:Sl 1 v (((w.map AV.str).drop i).take (j-i))):Sl 1 v ((sub w i j).map .str):=by
 unfold sub
 rw [lDZ,lDY];exact h
def zFR (x:List Bt) (p:Nat) (w:List Bt):Bool:=decide (w.length≤x.length-p)&&(sub x p (p+w.length)==w)
theorem a134 {xv wv:AV} {x w:List Bt} {p:Nat} (hx:Sl 1 xv (x.map .str)) (hw:Sl 1 wv (w.map .str)) (hp:p≤x.length) (hxl:x.length≤1000000) (hwl:w.length≤1000000) (H:z0B):z0D PP 114 [xv,.int .i64 p,wv] H (z1A H (.bool (zFR x p w))):=by
 refine z0D.gives (zUX.c3 z0R mixed rfl ?_)
 rw [lAK]
 have hlx:(x.map AV.str).length=x.length:=lAE _
 have hlw:(w.map AV.str).length=w.length:=lAE _
 refine z0A ?_
 refine z5j rfl rfl (by omega) (by omega) ?_
 have e1:decide (((w.map AV.str).length:Int)≤((x.map AV.str).length:Int)-(p:Int))=decide (w.length≤x.length-p):=by rw [hlx,hlw];simp only [lAP];omega
 refine z0A ?_
 rw [e1]
 unfold zFR
 cases hc:decide (w.length≤x.length-p)
 ·refine z0A ?_
  exact z0Y rfl (z0s (z0N.bool _))
 simp only [lAD] at hc
 refine z0A ?_
 rw [hlw]
 refine z2A rfl rfl (by omega) ?_
 refine z0A ?_
 refine zFw (a:=p) (b:=p+w.length) rfl hx rfl (by rw [hlx];exact z8K (by omega) (by omega)) ?_
 intro v hv
 have hv:=zCk hv
 refine z0A ?_
 refine z0H rfl (c17 hv hw (lBM (z9y _ _ _) (by omega)) _) ?_
 refine z0A ?_
 exact z0Y rfl (z0s (z0N.bool _))
def zQX (l:List Pl) (a b:List Bt):Bool:=l.isEmpty||l.any fun p=>z2u (z5c zBK p.1) a&&z0g (z5c zBK p.2) b
structure AkV (r:Ru) (ms:List (Nat × Nat)) (plv v:AV):Prop where
 eq:v=.cptr [.int .i64 r.kind,z0T r.pn r.pairs,z0U r.ln r.places,.bool r.below,plv]
 ln:ms.length=r.places.length
 sp:Sl 2 plv (List.zipWith plA r.places ms)
 nd:((z3f r.places ms).map Prod.fst).Nodup
 ok:∀ p∈r.places,zMW p.1∧zMW p.2∧p.1.size≤100∧p.2.size≤100
 nl:r.places.length≤1000
 np:r.pairs.length≤1000
 pl:∀ p∈r.pairs,p.a.l.length≤1000∧p.b.l.length≤1000
theorem zMF {l:List Pl} {ms:List (Nat × Nat)} {i:Nat} {p:Pl} {m:Nat × Nat} (hp:l[i]? =some p) (hm:ms[i]? =some m):(m.1,z1M (DR p.1))∈z3f l ms∧(m.2,z1M (DR p.2))∈z3f l ms:=by
 have:(p,m)∈l.zip ms:=lAF (i:=i) (by rw [List.getElem?_zip_eq_some];exact ⟨hp,hm⟩)
 unfold z3f
 exact ⟨lBW.2 ⟨_,this,by simp⟩,lBW.2 ⟨_,this,by simp⟩⟩
section
variable {r:Ru} {ms:List (Nat × Nat)} {plv v:AV} {X:z0B}
theorem a135 {av bv:AV} {a b:List Bt} (hA:AkV r ms plv v) (ha:Sl 1 av (a.map .str)) (hb:Sl 1 bv (b.map .str)) (ga:GW a) (gb:GW b) (hal:a.length≤1000000) (hbl:b.length≤1000000) (hX:AskMs (z3f r.places ms) X X) :
  z0D PP 127 [v,av,bv] X (fun u H'=>u=.ret (.bool (zQX r.places a b))∧AskMs (z3f r.places ms) X H'):=by
 have hsp:=hA.sp
 have hln:=hA.ln
 have hnl:=hA.nl
 have hzl:(List.zipWith plA r.places ms).length=r.places.length:=by rw [List.length_zipWith];omega
 obtain rfl:=hA.eq
 refine zUV.c3 z0R mixed rfl ?_
 rw [lAK]
 generalize z0T r.pn r.pairs=pv at *
 generalize z0U r.ln r.places=lv at *
 refine z0A ?_
 refine z0F r.places.length (fun i al W=>al=[(0,.cptr [.int .i64 r.kind,pv,lv,.bool r.below,plv]),(1,av),(2,bv),(7,.int .i64 i)]∧AskMs (z3f r.places ms) X W∧(r.places.take i).any (fun p=>z2u (z5c zBK p.1) a&&z0g (z5c zBK p.2) b)=false) ⟨rfl,hX,by simp⟩ ?_
 rintro i _ W hi ⟨rfl,wi,w1⟩
 have e1:decide ((i:Int)<((List.zipWith plA r.places ms).length:Int))=decide (i<r.places.length):=by rw [hzl];simp only [lAP];omega
 refine z0A ?_
 rw [e1]
 cases hc:decide (i<r.places.length)
 ·simp only [lAC] at hc
  have:r.places.take i=r.places:=lAS (by omega)
  rw [this] at w1
  refine z0A ?_
  refine z0Y rfl ⟨?_,wi⟩
  unfold zQX
  rw [w1,hzl,Bool.or_false]
  have:((r.places.length:Int)==0)=r.places.isEmpty:=by
   cases r.places with
   | nil=>rfl
   | cons a l=>simp;omega
  rw [this];rfl
 simp only [lAD] at hc
 obtain ⟨p,hp⟩:=z0M (l:=r.places) (i:=i) hc
 obtain ⟨m,hm⟩:=z0M (l:=ms) (i:=i) (by omega)
 obtain ⟨m1,m2⟩:=zMF hp hm
 obtain ⟨f1,f2,s1,s2⟩:=hA.ok p (lAF hp)
 have q1:z8P (DR p.1) m.1 (zKh p.1 m.1) 0 (z5c zBK p.1):=zFh (.list _) f1 s1 p.1 0 (z6K _)
 have q2:z8P (DR p.2) m.2 (zKh p.2 m.2) 0 (z5c zBK p.2):=zFh (.list _) f2 s2 p.2 0 (z6K _)
 have hu:(List.zipWith plA r.places ms)[i]? =some (.agg [zKh p.1 m.1,zKh p.2 m.2]):=by
  rw [List.getElem?_zipWith,hp,hm];rfl
 generalize zKh p.1 m.1=la at *
 generalize zKh p.2 m.2=ra at *
 refine z0A ?_
 refine z0L rfl (a205 q1 ha ga hal (wi.get m1)) ?_ ?_
 rotate_left
 ·rintro u V' ⟨hu,_⟩
  cases hu
 rintro u W1 ⟨hu',hin⟩
 cases hu'
 have wi1:=wi.step hA.nd m1 hin
 have hsnoc:(r.places.take (i+1)).any (fun p=>z2u (z5c zBK p.1) a&&z0g (z5c zBK p.2) b)=(z2u (z5c zBK p.1) a&&z0g (z5c zBK p.2) b):=by
  rw [lBA,lDK,w1,hp];simp
 cases hb1:z2u (z5c zBK p.1) a
 ·rw [hb1,lD8] at hsnoc
  refine z0A ?_
  exact ⟨by omega,rfl,wi1,hsnoc⟩
 rw [hb1,lCT] at hsnoc
 refine z0A ?_
 refine z0L rfl (a206 q2 hb gb hbl (wi1.get m2)) ?_ ?_
 rotate_left
 ·rintro u V' ⟨hu,_⟩
  cases hu
 rintro u W2 ⟨hu',hin2⟩
 cases hu'
 have wi2:=wi1.step hA.nd m2 hin2
 cases hb2:z0g (z5c zBK p.2) b
 ·rw [hb2] at hsnoc
  refine z0A ?_
  exact ⟨by omega,rfl,wi2,hsnoc⟩
 ·refine z0A ?_
  refine z0Y rfl ⟨?_,wi2⟩
  have:r.places.any (fun p=>z2u (z5c zBK p.1) a&&z0g (z5c zBK p.2) b)=true:=lA3.2 ⟨p,lAF hp,by simp [hb1,hb2]⟩
  unfold zQX
  rw [this,Bool.or_true];rfl
end
def zXA (l:List Pl) (x:List Bt) (p:Nat) (ahead f:List Bt):Bool:=zFR x p f&&zQX l ahead (x.drop (p+f.length))
def atR (r:Ru) (x:List Bt) (p:Nat) (ahead:List Bt):List Nat:=(List.range r.pairs.length).filter fun n=>zXA r.places x p ahead (r.pairs.getD n ⟨⟨true,[]⟩,⟨true,[]⟩⟩).a.l
theorem zHj {X:z0B} {L:List (Nat × (z3t→Prop))} {W:z0B} (h:AskMs L X W) {lo:Nat} {kv:AV} {l:List AV} (hk:z1D lo W kv l):∀ p∈L,∀ k,kv≠.sl p.1 0 k 1:=by
 intro p hp k e
 obtain ⟨es,c,_,hg⟩:=h.at_ p hp
 rcases hk with ⟨_,e2⟩ | ⟨kb,e2,g,_,_⟩
 ·rw [e2] at e;cases e
 ·rw [e2] at e
  injection e with e
  subst e
  rw [g] at hg;cases hg
theorem z1D.lower {lo lo':Nat} {X:z0B} {kv:AV} {l:List AV} (h:z1D lo X kv l) (hl:lo'≤lo):z1D lo' X kv l:=by
 rcases h with h | ⟨kb,h1,h2,h3,h4⟩
 ·exact .inl h
 ·exact .inr ⟨kb,h1,h2,by omega,h4⟩
theorem zHm {lo n:Nat} {W:z0B} {kv:AV} {l:List AV} (hk:z1D lo W kv l) (hn:n≤lo) (h1:∀ x∈l,x.cells=[x]):∃ K,SealsX n kv W (if l.isEmpty then .nilslice else .list 1 l) K∧(K=W∨∃ kb k,kv=.sl kb 0 k 1∧K=W.set kb .dead):=by
 rcases hk with ⟨rfl,rfl⟩ | ⟨kb,rfl,g,hlo,hne⟩
 ·exact ⟨W,.done _ _,.inl rfl⟩
 ·refine ⟨W.set kb .dead,?_,.inr ⟨kb,_,rfl,rfl⟩⟩
  rw [if_neg (by rw [lC2];exact hne)]
  exact .step kb _ (by omega) g (.base _ _ (.sl 0 _ 1 l rfl (fun x hx=>by rw [h1 x hx];rfl) (by rw [z1B h1,lBL,lCA,lAW]) (by omega))) (.done _ _)
section
variable {r:Ru} {ms:List (Nat × Nat)} {plv v:AV} {X:z0B}
theorem AskMs.sealed {L:List (Nat × (z3t→Prop))} {W K:z0B} (h:AskMs L X W) {kv:AV} {l:List AV} (hk:z1D X.length W kv l) (e:K=W∨∃ kb k,kv=.sl kb 0 k 1∧K=W.set kb .dead):AskMs L X K:=by
 rcases e with rfl | ⟨kb,k,rfl,rfl⟩
 ·exact h
 ·have hn:=zHj h hk
  rcases hk with ⟨_,e⟩ | ⟨kb',e,_,hlo,_⟩
  ·cases e
  ·injection e with e
   subst e
   exact h.own hlo fun p hp e=>hn p hp k (by rw [e])
theorem AskMs.grow {L:List (Nat × (z3t→Prop))} {W Z:z0B} (h:AskMs L X W) {kv:AV} {l:List AV} (hk:z1D X.length W kv l) (hp:∀ (j:Nat) (b:Blk),(∀ k,kv≠.sl j 0 k 1)→W[j]? =some b→Z[j]? =some b) (hl:W.length≤Z.length):AskMs L X Z :=
 h.pres (fun j b _ hj hb=>hp j b (hk.ne hj) hb) (fun p hq b hb=>hp _ b (zHj h hk p hq) hb) hl
theorem a75 {xv av:AV} {x a:List Bt} {p:Nat} (hA:AkV r ms plv v) (hx:Sl 1 xv (x.map .str)) (ha:Sl 1 av (a.map .str)) (gx:GW x) (ga:GW a) (hxl:x.length≤1000000) (hal:a.length≤1000000) (hp:p≤x.length) (hX:AskMs (z3f r.places ms) X X) :
  z0D PP 68 [v,xv,.int .i64 p,av] X (zNU (fun u H'=>u=z3Y (atR r x p a)∧AskMs (z3f r.places ms) X H') (fun _ _=>False)):=by
 have hnp:=hA.np
 have hpl:=hA.pl
 have k135:=fun (bv:AV) (b:List Bt) (W:z0B) (hb:Sl 1 bv (b.map .str)) gb hbl hW=>a135 (X:=W) (bv:=bv) (b:=b) hA ha hb ga gb hal hbl hW
 obtain rfl:=hA.eq
 refine z0D.sealed (n:=X.length) ?_
 refine is68.c4 z0R mixed rfl ?_
 rw [lAK]
 have hsp:=zEB r.pn r.pairs
 have hlp:(r.pairs.map z2W).length=r.pairs.length:=lAE _
 have hlx:(x.map AV.str).length=x.length:=lAE _
 generalize z0T r.pn r.pairs=pv at *
 generalize z0U r.ln r.places=lv at *
 refine z0A ?_
 refine z0F r.pairs.length (fun n al W=>∃ kw,al=[(0,.cptr [.int .i64 r.kind,pv,lv,.bool r.below,plv]),(1,xv),(2,.int .i64 p),(3,av),(9,kw),(10,.int .i64 n)]∧AskMs (z3f r.places ms) X W∧z1D X.length W kw (((List.range n).filter fun n=>zXA r.places x p a (r.pairs.getD n ⟨⟨true,[]⟩,⟨true,[]⟩⟩).a.l).map z0w)) ⟨_,rfl,hX,.inl ⟨rfl,rfl⟩⟩ ?_
 rintro n _ W hn ⟨kw,rfl,wi,wk⟩
 have e1:decide ((n:Int)<((r.pairs.map z2W).length:Int))=decide (n<r.pairs.length):=by rw [hlp];simp only [lAP];omega
 refine z0A ?_
 rw [e1]
 cases hc:decide (n<r.pairs.length)
 ·simp only [lAC] at hc
  obtain rfl:n=r.pairs.length:=by omega
  refine z0A ?_
  obtain ⟨K,g1,g2⟩:=zHm (n:=X.length) wk (lAL _) (fun y hy=>by obtain ⟨q,_,rfl⟩:=lA4.1 hy;rfl)
  refine z0Y rfl (.inl ⟨_,_,K,rfl,g1,?_,wi.sealed wk g2⟩)
  unfold z3Y atR
  simp only [List.isEmpty_map]
 simp only [lAD] at hc
 obtain ⟨pr,hpr⟩:=z0M (l:=r.pairs) (i:=n) hc
 have hu:(r.pairs.map z2W)[n]? =some (.agg [z0X pr.a,z0X pr.b]):=z0q (f:=z2W) hpr
 obtain ⟨hl1,hl2⟩:=hpl pr (lAF hpr)
 have hgd:(r.pairs.getD n ⟨⟨true,[]⟩,⟨true,[]⟩⟩).a.l=pr.a.l:=by rw [lAB,hpr];rfl
 have hsw:=z7S pr.a
 have hlw:(pr.a.l.map AV.str).length=pr.a.l.length:=lAE _
 have k134:=a134 hx hsw hp hxl (by omega)
 have hhit:zXA r.places x p a (r.pairs.getD n ⟨⟨true,[]⟩,⟨true,[]⟩⟩).a.l=(zFR x p pr.a.l&&zQX r.places a (x.drop (p+pr.a.l.length))):=by rw [hgd];rfl
 refine z0A ?_
 refine z0H rfl (k134 _) ?_
 cases hf:zFR x p pr.a.l
 ·rw [hf,lD8] at hhit
  refine z0A ?_
  exact ⟨hc,kw,rfl,wi,by rw [z8m hhit];exact wk⟩
 rw [hf,lCT] at hhit
 have hle:pr.a.l.length≤x.length-p:=by
  unfold zFR at hf
  rw [lAQ,lAD] at hf
  exact hf.1
 refine z0A ?_
 rw [hlw]
 refine z2A rfl rfl (by omega) ?_
 refine z0A ?_
 refine zFw (a:=p+pr.a.l.length) (b:=x.length) rfl hx rfl (by rw [hlx];exact zNF (by omega)) ?_
 intro bv hbv
 have hbv:=zCk hbv
 have hdr:sub x (p+pr.a.l.length) x.length=x.drop (p+pr.a.l.length):=z9t x _
 rw [hdr] at hbv
 refine z0A ?_
 refine z0L rfl (k135 bv _ W hbv (gx.drop _) (by simp;omega) wi.self) ?_ ?_
 rotate_left
 ·rintro u V' ⟨hu,_⟩
  cases hu
 rintro u W1 ⟨hu',hin⟩
 cases hu'
 have wi1:=wi.trans hin
 have wk1:z1D X.length W1 kw _:=wk.mono' fun j k b e hj=>hin.old j b (fun q hq e'=>zHj wi wk q hq k (by rw [e,e'])) hj
 cases hm:zQX r.places a (x.drop (p+pr.a.l.length))
 ·rw [hm] at hhit
  refine z0A ?_
  exact ⟨hc,kw,rfl,wi1,by rw [z8m hhit];exact wk1⟩
 ·rw [hm] at hhit
  refine z0A ?_
  refine z0Z (out:=[z0w n]) rfl ?_
  have hfl:=z5L (fun n=>zXA r.places x p a (r.pairs.getD n ⟨⟨true,[]⟩,⟨true,[]⟩⟩).a.l) n
  refine z9R (kv:=kw) rfl wk1 rfl rfl (z2y _) (by rw [lAE];omega) wi1.len ?_
  intro kv' Z hko hpres hlen hfr
  refine z0A ?_
  exact ⟨hc,kv',rfl,wi1.grow wk1 hpres hlen,by rw [zDP hhit,lBP];exact hko⟩
def z3s (r:Ru) (x:List Bt) (p:Nat):List Nat:=atR r x p (x.take p)
theorem z9Z (l:List Nat):AV.scalar (z3Y l)=true∧(z3Y l).cells=[z3Y l]:=by
 unfold z3Y
 split<;>exact ⟨rfl,rfl⟩
def zPG (l:List (List Nat)):AV:=if l.isEmpty then .nilslice else .list 1 (l.map z3Y)
theorem zNy (l:List (List Nat)):Sl 1 (zPG l) (l.map z3Y):=by
 unfold zPG
 cases l with
 | nil=>exact .nil
 | cons a l=>exact .list _
theorem a35 {xv:AV} {x:List Bt} (hA:AkV r ms plv v) (hx:Sl 1 xv (x.map .str)) (gx:GW x) (hxl:x.length≤1000000) (hX:AskMs (z3f r.places ms) X X) :
  z0D PP 32 [v,xv] X (zNU (fun u H'=>u=zPG ((List.range x.length).map (z3s r x))∧AskMs (z3f r.places ms) X H') (fun _ _=>False)):=by
 have k75:=fun (p:Nat) (av:AV) (a:List Bt) (W:z0B) ha ga hal hp hW=>a75 (X:=W) (av:=av) (a:=a) (p:=p) hA hx ha gx ga hxl hal hp hW
 generalize hv:v=v0 at *
 refine z0D.sealed (n:=X.length) ?_
 refine is32.c2 z0R mixed rfl ?_
 rw [lAK]
 have hlx:(x.map AV.str).length=x.length:=lAE _
 refine z0A ?_
 refine z0F x.length (fun p al W=>∃ kw,al=[(0,v0),(1,xv),(5,kw),(6,.int .i64 p)]∧AskMs (z3f r.places ms) X W∧z1D X.length W kw (((List.range p).map (z3s r x)).map z3Y)) ⟨_,rfl,hX,.inl ⟨rfl,rfl⟩⟩ ?_
 rintro p _ W hp ⟨kw,rfl,wi,wk⟩
 have e1:decide ((p:Int)<((x.map AV.str).length:Int))=decide (p<x.length):=by rw [hlx];simp only [lAP];omega
 refine z0A ?_
 rw [e1]
 cases hc:decide (p<x.length)
 ·simp only [lAC] at hc
  obtain rfl:p=x.length:=by omega
  refine z0A ?_
  obtain ⟨K,g1,g2⟩:=zHm (n:=X.length) wk (lAL _) (fun y hy=>by obtain ⟨q,_,rfl⟩:=lA4.1 hy;exact (z9Z q).2)
  refine z0Y rfl (.inl ⟨_,_,K,rfl,g1,?_,wi.sealed wk g2⟩)
  unfold zPG
  simp only [List.isEmpty_map]
 simp only [lAD] at hc
 refine z0A ?_
 refine zFw (a:=0) (b:=p) rfl hx rfl (by rw [hlx];exact zNG (by omega)) ?_
 intro av ha
 have ha:=zCk ha
 have hdr:sub x 0 p=x.take p:=by unfold sub;simp
 rw [hdr] at ha
 refine z0L rfl (k75 p av _ W ha (gx.take _) (by simp;omega) (by omega) wi.self) ?_ ?_
 rotate_left
 ·rintro u V' (⟨v,hu,_⟩ | ⟨p,_,hf⟩)
  ·cases hu
  ·exact hf.elim
 rintro u W1 (⟨u',hu,hv',hin⟩ | ⟨p,hu,_⟩)
 rotate_left
 ·cases hu
 cases hu
 have wi1:=wi.trans hin
 have wk1:z1D X.length W1 kw _:=wk.mono' fun j k b e hj=>hin.old j b (fun q hq e'=>zHj wi wk q hq k (by rw [e,e'])) hj
 obtain ⟨sc1,sc2⟩:=z9Z (atR r x p (x.take p))
 rw [←hv'] at sc1 sc2
 have hrow:u=z3Y (z3s r x p):=hv'
 have hshape:(∃ l,u=.list 1 l)∨u=.nilslice:=by
  rw [hv']
  unfold z3Y
  split
  ·exact .inr rfl
  ·exact .inl ⟨_,rfl⟩
 refine z0Z (out:=[u]) (by rcases hshape with ⟨l,rfl⟩ | rfl<;>rfl) ?_
 have hall:(((List.range p).map (z3s r x)).map z3Y).all AV.scalar=true:=by
  rw [List.all_map,lAX];intro q _;exact (z9Z q).1
 refine z9R (kv:=kw) rfl wk1 rfl sc1 hall (by simp;omega) wi1.len ?_
 intro kv' Z hko hpres hlen hfr
 refine z0A ?_
 refine ⟨hc,kv',rfl,wi1.grow wk1 hpres hlen,?_⟩
 rw [lCS,lBP,lBP,lA6,lCZ,lA6,lCZ,←hrow]
 exact hko
end
theorem zXD {H K:z0B} (h:∀ (j:Nat) (b:Blk),H[j]? =some b→K[j]? =some b):∃ G,K=H++G:=by
 refine ⟨K.drop H.length,?_⟩
 apply lCD
 intro j
 rcases lBB j H.length with hj | hj
 ·rw [lAN hj,lAG hj]
  exact h j _ (lAG hj)
 ·rw [lAJ hj,lDA]
  congr 1;omega
theorem z0D.plainE {P:Program} {H:z0B} {f:FuncId} {args:List AV} {v:AV} (hp:z0N v) (h:z0D P f args H (zNU (fun u H'=>u=v∧AskMs [] H H') (fun _ _=>False))):z0D P f args H (z1A H v):=by
 have:=z0D.forgetE (P:=P) (H:=H) (f:=f) (args:=args) (S:=fun u=>u=v) (fun u hu=>by rw [hu];exact hp) (h.mono fun r H' q=>by
  rcases q with ⟨u,hu,hv,hm⟩ | ⟨p,_,hf⟩
  ·exact ⟨u,hu,hv,zXD fun j b hb=>hm.old j b (fun p hp=>by cases hp) hb⟩
  ·exact hf.elim)
 exact this.mono fun r H' q=>by
  obtain ⟨u,hu,hv,hh⟩:=q
  subst hv
  exact ⟨hu,hh⟩
theorem zGW {H:z0B}:AskMs [] H H:=⟨fun p hp=>(by cases hp),fun _ _ _ h=>h,lAL _⟩
def zFM (r:Ru) (n:Nat):Nat:=(r.pairs.getD n ⟨⟨true,[]⟩,⟨true,[]⟩⟩).a.l.length
def zSa (kind:Int) (len:Nat→Nat) (b:Int) (n:Nat):Int:=if (decide (b<0)||((kind==2)&&decide ((len n:Int)>b)))||((kind==3)&&decide ((len n:Int)<b)) then len n else b
def zFg (kind:Int) (len:Nat→Nat) (l:List Nat):Int:=l.foldl (zSa kind len) (-1)
def z9s (kind:Int) (len:Nat→Nat) (l:List Nat):List Nat:=l.filter fun n=>(len n:Int)==zFg kind len l
theorem zKU (kind:Int) (len:Nat→Nat) {l:List Nat} {i n:Nat} (h:l[i]? =some n):zFg kind len (l.take (i+1))=zSa kind len (zFg kind len (l.take i)) n:=by
 rw [lBA,h]
 unfold zFg
 rw [List.foldl_append];rfl
theorem zMc {α:Type} {q:α→Bool} {l:List α} {i:Nat} {n:α} (h:l[i]? =some n):(l.take (i+1)).filter q=(l.take i).filter q++if q n then [n] else []:=by
 rw [lBA,h,List.filter_append]
 cases hq:q n<;>simp [hq]
theorem zPM {r:Ru} {n:Nat} (h:n<r.pairs.length):∃ p,r.pairs[n]? =some p∧(r.pairs.map z2W)[n]? =some (.agg [z0X p.a,z0X p.b])∧zFM r n=p.a.l.length∧p∈r.pairs:=by
 obtain ⟨p,hp⟩:=z0M (l:=r.pairs) (i:=n) h
 exact ⟨p,hp,z0q (f:=z2W) hp,by unfold zFM;rw [lAB,hp];rfl,lAF hp⟩
section
variable {r:Ru} {lv:AV} {l:List Nat} {H:z0B}
end
theorem zXT {r:Ru} {x a:List Bt} {p:Nat}:∀ n∈atR r x p a,n<r.pairs.length:=fun n hn=>lAZ.1 (lCC.1 hn).1
theorem zNK {r:Ru} {x a:List Bt} {p:Nat}:(atR r x p a).length≤r.pairs.length:=z5L _ _
theorem zMG {X:z0B} {L:List (Nat × (z3t→Prop))} {W:z0B} (h:AskMs L X W) {sz lo:Nat} {kv:AV} {l:List AV} (hk:z3v sz lo W kv l):∀ p∈L,∀ k,kv≠.sl p.1 0 k sz:=by
 intro p hp k e
 obtain ⟨es,c,_,hg⟩:=h.at_ p hp
 rcases hk.2 with ⟨_,e2⟩ | ⟨kb,e2,g,_,_⟩
 ·rw [e2] at e;cases e
 ·rw [e2] at e
  injection e with e
  subst e
  rw [g] at hg;cases hg
theorem AskMs.growG {X:z0B} {L:List (Nat × (z3t→Prop))} {W Z:z0B} (h:AskMs L X W) {sz lo:Nat} {kv:AV} {l:List AV} (hk:z3v sz lo W kv l) (hlo:X.length≤lo) (hp:∀ (j:Nat) (b:Blk),(∀ k,kv≠.sl j 0 k sz)→W[j]? =some b→Z[j]? =some b) (hl:W.length≤Z.length):AskMs L X Z :=
 h.pres (fun j b _ hj hb=>hp j b (hk.ne (by omega)) hb) (fun p hq b hb=>hp _ b (zMG h hk p hq) hb) hl
theorem zLj {lo n sz:Nat} {W:z0B} {kv:AV} {l:List AV} (hk:z3v sz lo W kv l) (hn:n≤lo):∃ K,SealsX n kv W (if l.isEmpty then .nilslice else .list sz l) K∧(K=W∨∃ kb k,kv=.sl kb 0 k sz∧K=W.set kb .dead):=by
 obtain ⟨h0,⟨rfl,rfl⟩ | ⟨kb,rfl,g,hlo,hne⟩⟩:=hk
 ·exact ⟨W,.done _ _,.inl rfl⟩
 ·refine ⟨W.set kb .dead,?_,.inr ⟨kb,_,rfl,rfl⟩⟩
  rw [if_neg (by rw [lC2];exact hne)]
  exact .step kb _ (by omega) g (.base _ _ (.sl 0 _ sz l rfl h0 (by rw [lBL,←z0y h0,lAW]) (by rw [z0y h0];omega))) (.done _ _)
theorem AskMs.sealedG {X:z0B} {L:List (Nat × (z3t→Prop))} {W K:z0B} (h:AskMs L X W) {sz lo:Nat} {kv:AV} {l:List AV} (hk:z3v sz lo W kv l) (hlo:X.length≤lo) (e:K=W∨∃ kb k,kv=.sl kb 0 k sz∧K=W.set kb .dead):AskMs L X K:=by
 rcases e with rfl | ⟨kb,k,rfl,rfl⟩
 ·exact h
 ·have hn:=zMG h hk
  rcases hk.2 with ⟨_,e⟩ | ⟨kb',e,_,hlo2,_⟩
  ·cases e
  ·injection e with e
   subst e
   exact h.own (by omega) fun p hp e=>hn p hp k (by rw [e])
section calls5
variable {P:Program} {H:z0B} {f:FuncId} {anns:List Ann} {F:IFunc} {R:z2U} (hnn:z6F P) (hm:P.follows .mixedOrders=true) (hF:Is P f anns F)
include hnn hm hF
theorem Is.c5 {a b c d e:AV} (hn:Nat.ble 5 F.n=true) (h:WI P F.body (z3m F.rs R) [(0,a),(1,b),(2,c),(3,d),(4,e)] (H++[])):z0D P f [a,b,c,d,e] H R:=by
 rw [lAK] at h;exact hF.call hnn hm hn h.1
end calls5
section
variable {r:Ru} {ms:List (Nat × Nat)} {plv v:AV} {X:z0B}
end
set_option maxHeartbeats 8000000
abbrev Way:=Int × Nat
def zBG (m:Way):AV:=fv m.1 m.2
def zJP (l:List Way):AV:=if l.isEmpty then .nilslice else .list 2 (l.map zBG)
theorem zNx (l:List Way):Sl 2 (zJP l) (l.map zBG):=by
 unfold zJP
 cases l with
 | nil=>exact .nil
 | cons a l=>exact .list _
section
variable {H:z0B}
theorem a210 {kv:AV} {l:List Nat} {t:Int} (hk:Sl 1 kv (l.map z0w)) (hn:l.length≤1000000):z0D PP 167 [kv,.int .i64 t] H (fun r H'=>(∃ n:Int,r=.ret (.int .i64 n)∧decide (n≥0)=l.any fun n=>t==(n:Int))∧H'=H):=by
 refine zUF.c2 z0R mixed rfl ?_
 rw [lAK]
 have hlm:(l.map z0w).length=l.length:=lAE _
 refine z0A ?_
 refine z0F l.length (fun i al H'=>al=[(0,kv),(1,.int .i64 t),(7,.int .i64 l.length),(8,.int .i64 i)]∧H'=H∧(l.take i).any (fun n=>t==(n:Int))=false) ⟨by rw [hlm];rfl,rfl,by simp⟩ ?_
 rintro i _ V hi ⟨rfl,rfl,v1⟩
 have e1:decide ((i:Int)<(l.length:Int))=decide (i<l.length):=by simp only [lAP];omega
 refine z0A ?_
 rw [e1]
 cases hc:decide (i<l.length)
 ·simp only [lAC] at hc
  have:l.take i=l:=lAS (by omega)
  rw [this] at v1
  refine z0A ?_
  exact z0Y rfl ⟨⟨-1,rfl,by rw [v1];rfl⟩,rfl⟩
 simp only [lAD] at hc
 obtain ⟨v,hv⟩:=z0M (l:=l) (i:=i) hc
 have hu:(l.map z0w)[i]? =some (z0w v):=by rw [lAM,hv];rfl
 have hsn:=z0r (p:=fun n:Nat=>t==(n:Int)) hv
 refine z0A ?_
 cases hp:(t==(v:Int))
 ·refine z0A ?_
  exact ⟨by omega,rfl,rfl,by rw [hsn,v1,hp];rfl⟩
 ·refine z0A ?_
  refine z0Y rfl ⟨⟨i,rfl,?_⟩,rfl⟩
  have:l.any (fun n=>t==(n:Int))=true:=lA3.2 ⟨v,lAF hv,hp⟩
  rw [this,lAD];omega
theorem a141 {kv:AV} {l:List Nat} {t:Int} (hk:Sl 1 kv (l.map z0w)) (hn:l.length≤1000000):z0D PP 101 [kv,.int .i64 t] H (z1A H (.bool (l.any fun n=>t==(n:Int)))):=by
 refine zUg.c2 z0R mixed rfl ?_
 rw [lAK]
 refine z0A ?_
 refine z0L rfl (a210 hk hn) ?_ ?_
 rotate_left
 ·rintro u V' ⟨⟨n,hu,_⟩,_⟩
  cases hu
 rintro u V' ⟨⟨n,hu,hnb⟩,rfl⟩
 cases hu
 refine z0A ?_
 exact z0Y rfl ⟨by rw [←hnb];rfl,rfl⟩
theorem a140 {m:Way} {kv:AV} {l:List Nat} {b12:Nat} (hg:H[b12]? =some (.cells [kv])) (hk:Sl 1 kv (l.map z0w)) (hn:l.length≤1000000):z0D PP 100 [zBG m,.ptr b12 0] H (z1A H (.bool (!l.any fun n=>m.1==(n:Int)))):=by
 refine z0D.gives (zRs.c2 z0R mixed rfl ?_)
 rw [lAK]
 unfold zBG fv
 have k141:=fun H'=>a141 (H:=H') (t:=m.1) hk hn
 refine z1e (z0c ?_)
 refine z1E (.agg [.int .i64 m.1,.int .i64 m.2]) rfl rfl ?_
 have x2:(H++[Blk.cells [.int .i64 m.1,.int .i64 m.2]])[H.length]? =some (.cells [.int .i64 m.1,.int .i64 m.2]):=z0K
 have x5:=z0G (G:=[Blk.cells [.int .i64 m.1,.int .i64 m.2]]) hg
 show VV _ _ _ (H++[Blk.cells [.int .i64 m.1,.int .i64 m.2]]) _ _
 generalize hG:[Blk.cells [.int .i64 m.1,.int .i64 m.2]]=G at *
 refine z0A ?_
 refine z0H rfl (k141 _) ?_
 refine z0A ?_
 exact fr
end
end Go.Ab
