/- Part 43 of the proof. -/
import Derived.Test.YtagcckioikbanaaGreatDoorA42
set_option linter.unusedVariables false
set_option linter.unusedSimpArgs false
namespace Go.Ab
open Go
set_option maxRecDepth 100000
set_option maxHeartbeats 16000000
mutual
def z3k:Ex→List Ex
 | .mk op s nl l=>.mk op s nl l::z5d l
def z5d:List Ex→List Ex
 | []=>[]
 | x::l=>z3k x++z5d l
end
def Ex.opR:Ex→Int | .mk op _ _ _=>op
def Ex.sy:Ex→Bt | .mk _ s _ _=>s
def Ex.kids:Ex→List Ex | .mk _ _ _ l=>l
theorem z4x (e:Ex):(z3k e).length=e.size:=by
 induction e using Ex.rec (motive_2:=fun l=>(z5d l).length=z0Z l) with
 | mk op s nl l ih=>simp only [z3k,lBC,Ex.size,ih];omega
 | nil=>rfl
 | cons x l h1 h2=>simp only [z5d,lAH,h1,h2,z0Z]
theorem zNQ (e:Ex):∀ (n j:Nat) (x:Ex),(z3k e)[j]? =some x→(z5Q n e)[j]? =some (x.opR,x.sy,z3D (n+j+1) x.kids):=by
 induction e using Ex.rec (motive_2:=fun l=>∀ (n j:Nat) (x:Ex),(z5d l)[j]? =some x→(z4b n l)[j]? =some (x.opR,x.sy,z3D (n+j+1) x.kids)) with
 | mk op s nl l ih =>
  intro n j x h
  simp only [z3k,z5Q] at h ⊢
  cases j with
  | zero =>
   simp only [lAY,Option.some.injEq] at h ⊢
   subst h;rfl
  | succ j =>
   simp only [lBD] at h ⊢
   rw [ih (n+1) j x h,show n+1+j+1=n+(j+1)+1 by omega]
 | nil=>rename_i n j x h;simp [z5d] at h
 | cons y l h1 h2 =>
  rename_i n j x h
  simp only [z5d,z4b] at h ⊢
  rcases lBJ j (z3k y).length with hj | hj
  ·rw [lAN hj] at h
   rw [lAN (by rw [z6x,←z4x];exact hj)]
   exact h1 n j x h
  ·rw [lAM hj] at h
   rw [lAM (by rw [z6x,←z4x];exact hj),z6x,←z4x]
   rw [h2 (n+(z3k y).length) _ x h,show n+(z3k y).length+(j-(z3k y).length)+1=n+j+1 by omega]
theorem zEw:∀ {l:List Ex} {i:Nat} {c:Ex},l[i]? =some c→∃ r,z5d l=z5d (l.take i)++(z3k c++r)
 | y::l,0,c,h=>by
  simp only [lAY,Option.some.injEq] at h
  subst h
  exact ⟨z5d l,rfl⟩
 | y::l,i+1,c,h=>by
  simp only [lBD] at h
  obtain ⟨r,e⟩:=zEw h
  exact ⟨r,by simp only [z5d,lBV,e,lA3]⟩
theorem zAm:∀ l:List Ex,(z5d l).length=z0Z l
 | []=>rfl
 | x::l=>by simp only [z5d,lAH,z4x,zAm l,z0Z]
theorem zFk:∀ {l:List Ex} {i:Nat} (n:Nat),i<l.length→(z3D n l)[i]? =some (n+z0Z (l.take i))
 | y::l,0,n,h=>rfl
 | y::l,i+1,n,h=>by
  simp only [z3D,lBD,lBV,z0Z]
  rw [zFk (n+y.size) (by simpa using h),lBS]
theorem z6n (e:Ex):(z3k e)[0]? =some e:=by
 obtain ⟨a,b,c,d⟩:=e
 rfl
theorem zRz (e:Ex):∀ (j:Nat) (x:Ex) (i:Nat) (c:Ex),(z3k e)[j]? =some x→x.kids[i]? =some c→(z3k e)[j+1+z0Z (x.kids.take i)]? =some c:=by
 have base:∀ (x:Ex) (i:Nat) (c:Ex),x.kids[i]? =some c→(z3k x)[1+z0Z (x.kids.take i)]? =some c:=by
  intro x i c h
  obtain ⟨op,s,nl,l⟩:=x
  simp only [Ex.kids] at h ⊢
  obtain ⟨r,e⟩:=zEw h
  simp only [z3k]
  rw [Nat.add_comm,lBD,e,lAM (by rw [zAm];exact lAL _),zAm,lBG,lAN (by rw [z4x];obtain ⟨_,_,_,_⟩:=c;simp only [Ex.size];omega)]
  exact z6n c
 induction e using Ex.rec (motive_2:=fun l=>∀ (j:Nat) (x:Ex) (i:Nat) (c:Ex),(z5d l)[j]? =some x→x.kids[i]? =some c→(z5d l)[j+1+z0Z (x.kids.take i)]? =some c) with
 | mk op s nl l ih =>
  intro j x i c h hc
  cases j with
  | zero =>
   rw [z6n] at h
   injection h with h
   subst h
   rw [lBH]
   exact base _ i c hc
  | succ j =>
   simp only [z3k,lBD] at h ⊢
   have:=ih j x i c h hc
   rw [show j+1+1+z0Z (x.kids.take i)=(j+1+z0Z (x.kids.take i))+1 by omega,lBD]
   exact this
 | nil=>rename_i j x i c h hc;simp [z5d] at h
 | cons y l h1 h2 =>
  rename_i j x i c h hc
  simp only [z5d] at h ⊢
  rcases lBJ j (z3k y).length with hj | hj
  ·rw [lAN hj] at h
   have:=h1 j x i c h hc
   rw [lAN (lAA.1 this).1]
   exact this
  ·rw [lAM hj] at h
   have:=h2 _ x i c h hc
   rw [lAM (by omega),show j+1+z0Z (x.kids.take i)-(z3k y).length=j-(z3k y).length+1+z0Z (x.kids.take i) by omega]
   exact this
abbrev zCC:Bt→List Bt:=fun t=>[t]
def DR (e:Ex) (k:Nat) (w:List Bt):Bool:=match (z3k e)[k]? with
 | some x=>z6G zCC x w
 | none=>false
theorem zTM {op:Int} {s t:List Bt} {fs:List (List Bt→Bool)} {w:List Bt} (h:op=0→s=t):z2S op s fs w=z2S op t fs w:=by
 unfold z2S
 by_cases h0:op=0
 ·simp only [if_pos h0,h h0]
 ·simp only [if_neg h0]
def zNY (e:Ex):Prop:=∀ x∈z3k e,Form x.opR x.kids.length∧x.kids.length≤1000
theorem zGk {e:Ex} {mid:Nat} {iv:AV} (hiv:Sl 3 iv ((z5Q 0 e).map z6D)) (hf:zNY e) (hsz:e.size≤100):∀ (x:Ex) (j:Nat),(z3k e)[j]? =some x→z8y (DR e) mid (.cptr [iv,.map mid]) j (z6G zCC x):=by
 intro x
 induction x using Ex.rec (motive_2:=fun l=>∀ c∈l,∀ j,(z3k e)[j]? =some c→z8y (DR e) mid (.cptr [iv,.map mid]) j (z6G zCC c)) with
 | mk op s nl l ih =>
  intro j hj
  have hjl:=(lAA.1 hj).1
  rw [z4x] at hjl
  have hD:DR e j=z6G zCC (.mk op s nl l):=by
   funext w
   simp only [DR,hj]
  rw [←hD]
  have hit:=zNQ e 0 j _ hj
  simp only [Ex.opR,Ex.sy,Ex.kids,lBH] at hit
  obtain ⟨hform,hkl⟩:=hf _ (lAF hj)
  simp only [Ex.opR,Ex.kids] at hform hkl
  have hnl:(z3D (j+1) l).length=l.length:=zBQ l _
  refine a248 (s:=s) (op:=op) (kv:=z2P (z3D (j+1) l)) hiv (by rw [lAK,hit];rfl) (by omega) fun H wv w hs hg hw ha=>?_
  have hd:DR e j w=z2S op [s] (l.map (z6G zCC)) w:=by
   rw [hD]
   simp only [z6G,zBp]
   exact zTM fun h=>by rw [if_pos h]
  rw [hd]
  refine a266 (z8Q _) ⟨by rw [hnl,lAD],fun i k f hk hf'=>?_⟩ (by rw [hnl];omega) (by rw [hnl];exact hform) hs hg hw ha
  have hi:=(lAA.1 hk).1
  rw [hnl] at hi
  rw [zFk _ hi] at hk
  injection hk with hk
  rw [lAK] at hf'
  cases hc:l[i]? with
  | none=>rw [hc] at hf';cases hf'
  | some c =>
   rw [hc] at hf'
   injection hf' with hf'
   subst hf';subst hk
   exact ih c (lAF hc) _ (zRz e j _ i c hj hc)
 | nil=>rename_i c hc _ _;cases hc
 | cons y l h1 h2 =>
  rename_i c hc j hj
  rcases lAV.1 hc with rfl | hc
  ·exact h1 j hj
  ·exact h2 c hc j hj
structure AskMs (L:List (Nat × (z3T→Prop))) (H H':z0B):Prop where
 at_:∀ p∈L,∃ es c,p.2 es∧H'[p.1]? =some (.map es c)
 old:∀ (j:Nat) (b:Blk),(∀ p∈L,p.1≠j)→H[j]? =some b→H'[j]? =some b
 len:H.length≤H'.length
theorem zFq {β:Type}:∀ {L:List (Nat × β)} {p q:Nat × β},(L.map Prod.fst).Nodup→p∈L→q∈L→p.1=q.1→p=q
 | x::L,p,q,hn,hp,hq,e=>by
  rw [lBA,List.nodup_cons] at hn
  rcases lAV.1 hp with hp1 | hp1
  ·rcases lAV.1 hq with hq1 | hq1
   ·rw [hp1,hq1]
   ·exact absurd (by rw [←hp1,e];exact lDY hq1) hn.1
  ·rcases lAV.1 hq with hq1 | hq1
   ·exact absurd (by rw [←hq1,←e];exact lDY hp1) hn.1
   ·exact zFq hn.2 hp1 hq1 e
section askms
variable {L:List (Nat × (z3T→Prop))} {X Y Z:z0B}
theorem AskMs.trans (h:AskMs L X Y) (k:AskMs L Y Z):AskMs L X Z:=⟨k.at_,fun j b h1 h2=>k.old j b h1 (h.old j b h1 h2),lBK h.len k.len⟩
theorem AskMs.self (h:AskMs L X Y):AskMs L Y Y:=⟨h.at_,fun _ _ _ h=>h,lAL _⟩
theorem AskMs.get (h:AskMs L X Y) {mid:Nat} {V:z3T→Prop} (hm:(mid,V)∈L):z3u V mid Y Y:=by
 obtain ⟨es,c,hv,hg⟩:=h.at_ _ hm
 exact ⟨es,c,hv,Mod.refl hg⟩
theorem AskMs.step (h:AskMs L X Y) (hn:(L.map Prod.fst).Nodup) {mid:Nat} {V:z3T→Prop} (hm:(mid,V)∈L) (k:z3u V mid Y Z):AskMs L X Z:=by
 obtain ⟨es,c,hv,m⟩:=k
 refine ⟨fun p hp=>?_,fun j b h1 h2=>m.old j b (fun e=>h1 _ hm e.symm) (h.old j b h1 h2),lBK h.len m.len⟩
 by_cases e:p.1=mid
 ·have:p=(mid,V):=zFq hn hp hm e
  subst this
  exact ⟨es,c,hv,m.get⟩
 ·obtain ⟨es',c',hv',hg⟩:=h.at_ p hp
  exact ⟨es',c',hv',m.old _ _ e hg⟩
theorem AskMs.app (h:AskMs L X Y) (G:z0B):AskMs L X (Y++G):=⟨fun p hp=>by
 obtain ⟨es,c,a,b⟩:=h.at_ p hp
 exact ⟨es,c,a,z0G b⟩,fun j b h1 h2=>z0G (h.old j b h1 h2),by have:=h.len;simp;omega⟩
theorem AskMs.own (h:AskMs L X Y) {id:Nat} {x:Blk} (h1:X.length≤id) (h2:∀ p∈L,p.1≠id):AskMs L X (Y.set id x):=⟨fun p hp=>by
 obtain ⟨es,c,a,b⟩:=h.at_ p hp
 exact ⟨es,c,a,z0K b fun e=>h2 p hp e.symm⟩,fun j b h3 h4=>z0K (h.old j b h3 h4) (by have:=(lAA.1 h4).1;omega),by have:=h.len;simpa using this⟩
theorem AskMs.pres (h:AskMs L X Y) (hp:∀ (j:Nat) (b:Blk),(∀ p∈L,p.1≠j)→j<X.length→Y[j]? =some b→Z[j]? =some b) (hm:∀ p∈L,∀ b,Y[p.1]? =some b→Z[p.1]? =some b) (hl:Y.length≤Z.length):AskMs L X Z :=
 ⟨fun p hq=>by
  obtain ⟨es,c,a,b⟩:=h.at_ p hq
  exact ⟨es,c,a,hm p hq _ b⟩,fun j b h1 h2=>hp j b h1 (lAA.1 h2).1 (h.old j b h1 h2),lBK h.len hl⟩
end askms
def zLm (e:Ex) (m:Nat):AV:=.cptr [.list 3 ((z5Q 0 e).map z6D),.map m]
def plA (p:Pl) (m:Nat × Nat):AV:=.agg [zLm p.1 m.1,zLm p.2 m.2]
def z2d (l:List Pl) (ms:List (Nat × Nat)):List (Nat × (z3T→Prop)):=(l.zip ms).flatMap fun q=>[(q.2.1,z1W (DR q.1.1)),(q.2.2,z1W (DR q.1.2))]
theorem zFw:∀ (l:List Pl) (ms:List (Nat × Nat)),ms.length=l.length→(z2d l ms).map Prod.fst=ms.flatMap fun m=>[m.1,m.2]
 | [],[],_=>rfl
 | p::l,m::ms,h=>by
  have:=zFw l ms (by simpa using h)
  unfold z2d at this ⊢
  simp only [List.zip_cons_cons,lCA,lBE,this];rfl
theorem zFQ {O:AV→Prop} {H H':z0B} (h:∀ (j:Nat) (b:Blk),H[j]? =some b→H'[j]? =some b):∀ (n:Option Nat) (x v:AV),O x→z0p n x H=some v→z0p n x H'=some v:=by
 intro n x v _ hl
 cases x with
 | ptr j off =>
  simp only [z0p] at hl ⊢
  cases hg:H[j]? with
  | none=>rw [hg] at hl;simp at hl
  | some c =>
   rw [hg] at hl
   rw [h _ _ hg]
   exact hl
 | _=>exact hl
theorem zPa {l:List Pl} {ms:List (Nat × Nat)} {i:Nat} {p:Pl} {m:Nat × Nat} (h:l[i]? =some p) (hm:ms.length=i):List.zipWith plA (l.take (i+1)) (ms++[m])=List.zipWith plA (l.take i) ms++[plA p m]:=by
 have hi:=(lAA.1 h).1
 rw [lA1,h,List.zipWith_append (by rw [lBR];omega)];rfl
theorem a34 (r:Ru) (hn:r.places.length≤1000) (hok:∀ p∈r.places,okE p.1∧okE p.2∧p.1.size≤100∧p.2.size≤100) (H:z0B) :
  z0C PP 31 [z6F r] H (zLn (fun v H'=>∃ ms plv,v=.cptr [.int .i64 r.kind,z0T r.pn r.pairs,z0U r.ln r.places,.bool r.below,plv]∧ms.length=r.places.length∧Sl 2 plv (List.zipWith plA r.places ms)∧((z2d r.places ms).map Prod.fst).Nodup∧AskMs (z2d r.places ms) H' H' ∧
   (∀ p∈z2d r.places ms,H.length≤p.1)∧(∀ (j:Nat) (b:Blk),H[j]? =some b→H'[j]? =some b)) (fun _ _=>False)):=by
 obtain ⟨kind,pn,pairs,ln,places,below⟩:=r
 simp only at hn hok
 refine z0C.sealed (n:=H.length) ?_
 refine is31.c1 z0P mixed rfl ?_
 rw [lAJ]
 unfold z6F
 simp only
 refine z1E (z0V ?_)
 refine z0y (.agg [.int .i64 kind,z0T pn pairs,z0U ln places,.bool below]) rfl (by simp only [AV.shaped,z1n,z1p];first | done | rfl) ?_
 have x1:(H++[Blk.cells [.int .i64 kind,z0T pn pairs,z0U ln places,.bool below]])[H.length]? =some (.cells [.int .i64 kind,z0T pn pairs,z0U ln places,.bool below]):=z0E
 have xo:∀ (j:Nat) (b:Blk),H[j]? =some b→(H++[Blk.cells [.int .i64 kind,z0T pn pairs,z0U ln places,.bool below]])[j]? =some b:=fun j b h=>z0G h
 have xl:(H++[Blk.cells [.int .i64 kind,z0T pn pairs,z0U ln places,.bool below]]:z0B).length=H.length+1:=by simp
 show VV _ _ _ (H++[Blk.cells [.int .i64 kind,z0T pn pairs,z0U ln places,.bool below]]) _ _
 generalize (H++[Blk.cells [.int .i64 kind,z0T pn pairs,z0U ln places,.bool below]]:z0B)=X at *
 refine z0A ?_
 refine z0s (out:=[.int .i64 kind,z0T pn pairs,z0U ln places,.bool below,.nilslice]) rfl rfl ?_
 refine z0y (.agg [.int .i64 kind,z0T pn pairs,z0U ln places,.bool below,.nilslice]) rfl (by simp only [AV.shaped,z1n,z1p];first | done | rfl) ?_
 have y2:(X++[Blk.cells [.int .i64 kind,z0T pn pairs,z0U ln places,.bool below,.nilslice]])[H.length+1]? =some (.cells [.int .i64 kind,z0T pn pairs,z0U ln places,.bool below,.nilslice]):=by rw [←xl];exact z0E
 have y1:=z0G (G:=[Blk.cells [.int .i64 kind,z0T pn pairs,z0U ln places,.bool below,.nilslice]]) x1
 have yo:∀ (j:Nat) (b:Blk),H[j]? =some b→(X++[Blk.cells [.int .i64 kind,z0T pn pairs,z0U ln places,.bool below,.nilslice]])[j]? =some b:=fun j b h=>z0G (xo j b h)
 have yl:(X++[Blk.cells [.int .i64 kind,z0T pn pairs,z0U ln places,.bool below,.nilslice]]:z0B).length=H.length+2:=by simp [xl]
 rw [xl]
 show VV _ _ _ (X++[Blk.cells [.int .i64 kind,z0T pn pairs,z0U ln places,.bool below,.nilslice]]) _ _
 generalize (X++[Blk.cells [.int .i64 kind,z0T pn pairs,z0U ln places,.bool below,.nilslice]]:z0B)=Y at *
 clear x1 xo xl X
 have hsL:=zHF ln places
 have hlL:(places.map z1L).length=places.length:=lAD _
 refine z0A ?_
 refine z0H places.length (fun i al W=>al=[(1,.ptr H.length 0),(3,.ptr (H.length+1) 0),(4,.int .i64 i)]∧∃ ms pv,ms.length=i∧(∀ (j:Nat) (b:Blk),H[j]? =some b→W[j]? =some b)∧W[H.length]? =some (.cells [.int .i64 kind,z0T pn pairs,z0U ln places,.bool below]) ∧
  W[H.length+1]? =some (.cells [.int .i64 kind,z0T pn pairs,z0U ln places,.bool below,pv])∧z2h 2 (H.length+2) W pv (List.zipWith plA (places.take i) ms)∧(∀ m∈ms,W[m.1]? =some (.map [] 0)∧W[m.2]? =some (.map [] 0)∧H.length≤m.1∧H.length≤m.2)∧(ms.flatMap fun m=>[m.1,m.2]).Nodup∧H.length+2≤W.length)
  ⟨rfl,[],.nilslice,rfl,yo,y1,y2,z2h.nil,fun m hm=>(by cases hm),by simp,by omega⟩ ?_
 clear y1 y2 yo yl Y
 rintro i _ W hi ⟨rfl,ms,pv,hml,wo,w1,w2,wp,wm,wn,wl⟩
 have e1:decide ((i:Int)<((places.map z1L).length:Int))=decide (i<places.length):=by rw [hlL];simp only [lAP];omega
 refine z0A ?_
 rw [e1]
 cases hc:decide (i<places.length)
 ·simp only [lAC] at hc
  have htk:places.take i=places:=lAQ (by omega)
  rw [htk] at wp
  have hmll:ms.length=places.length:=by omega
  refine z0A ?_
  have hHl:∀ (j:Nat) (b:Blk),H[j]? =some b→j<H.length:=fun j b h=>(lAA.1 h).1
  have hfst:=zFw places ms hmll
  have hmem:∀ p∈z2d places ms,W[p.1]? =some (.map [] 0)∧H.length≤p.1∧∃ D,p.2=z1W D:=fun p hp=>by
   unfold z2d at hp
   obtain ⟨q,hq,hp⟩:=lDA.1 hp
   obtain ⟨a,b,c,d⟩:=wm q.2 (List.of_mem_zip hq).2
   simp only [lAV,lA7,or_false] at hp
   rcases hp with rfl | rfl
   ·exact ⟨a,c,_,rfl⟩
   ·exact ⟨b,d,_,rfl⟩
  have fin:∀ K:z0B,(∀ (j:Nat) (b:Blk),(∀ cs,b≠.cells cs)∨j<H.length→W[j]? =some b→K[j]? =some b)→AskMs (z2d places ms) K K∧(∀ p∈z2d places ms,H.length≤p.1)∧(∀ (j:Nat) (b:Blk),H[j]? =some b→K[j]? =some b):=fun K hK=>⟨⟨fun p hp=>by
    obtain ⟨a,_,D,e⟩:=hmem p hp
    exact ⟨[],0,by rw [e];exact fun e he=>(by cases he),hK _ _ (.inl fun cs=>by simp) a⟩,fun _ _ _ h=>h,lAL _⟩,fun p hp=>(hmem p hp).2.1,fun j b h=>hK j b (.inr (hHl j b h)) (wo j b h)⟩
  obtain ⟨hp0,⟨he,rfl⟩ | ⟨pk,rfl,gp,hpk,_⟩⟩:=wp
  ·obtain ⟨f1,f2,f3⟩:=fin (W.set (H.length+1) .dead) fun j b h1 h2=>z0K h2 fun e=>by
    subst e
    rcases h1 with h1 | h1
    ·rw [w2] at h2;injection h2 with h2;exact h1 _ h2.symm
    ·omega
   exact z0W rfl (.inl ⟨_,_,W.set (H.length+1) .dead,rfl,.step (H.length+1) _ (by omega) w2 (.base _ _ (.ptr 0 (by simp))) (.done _ _),ms,.nilslice,rfl,hmll,by rw [he];exact .nil,by rw [hfst];exact wn,f1,f2,f3⟩)
  ·have gp2:=z0K (i:=H.length+1) (c:=.dead) gp (by omega)
   obtain ⟨f1,f2,f3⟩:=fin ((W.set (H.length+1) .dead).set pk .dead) fun j b h1 h2=>z0K (z0K h2 fun e=>by
    subst e
    rcases h1 with h1 | h1
    ·rw [w2] at h2;injection h2 with h2;exact h1 _ h2.symm
    ·omega) fun e=>by
    subst e
    rcases h1 with h1 | h1
    ·rw [gp] at h2;injection h2 with h2;exact h1 _ h2.symm
    ·omega
   refine z0W rfl (.inl ⟨_,_,(W.set (H.length+1) .dead).set pk .dead,rfl,.step (H.length+1) _ (by omega) w2 (.base _ _ (.ptr 0 (by simp))) (.step pk _ (by omega) gp2 (.cptr _ [.int .i64 kind,z0T pn pairs,z0U ln places,.bool below,.list 2 (List.zipWith plA places ms)] rfl fun i=>?_) (.done _ _)),ms,.list 2 (List.zipWith plA places ms),rfl,hmll,.list _,by rw [hfst];exact wn,f1,f2,f3⟩)
   match i with
   | 0=>exact .refl _
   | 1=>exact .refl _
   | 2=>exact .refl _
   | 3=>exact .refl _
   | 4=>exact .base _ _ (.sl 0 _ 2 (List.zipWith plA places ms) rfl hp0 (by rw [lBP,←z0t hp0,lAW]) (by rw [z0t hp0];omega))
   | i+5=>exact .refl _
 simp only [lAE] at hc
 obtain ⟨p,hp⟩:=z0M (l:=places) (i:=i) hc
 obtain ⟨ok1,ok2,sz1,sz2⟩:=hok p (lAF hp)
 have hzs:=fun m=>zPa (m:=m) hp hml
 have k1:=a74 p.1 ok1 (by omega)
 have k2:=a74 p.2 ok2 (by omega)
 obtain ⟨⟨op,s,nl,l⟩,op2,s2,nl2,l2⟩:=p
 have hu:(places.map z1L)[i]? =some (.agg [.int .i64 op,.str s,lst nl l,.int .i64 op2,.str s2,lst nl2 l2]):=z1A (f:=z1L) hp
 simp only [z0e] at k1 k2
 refine z0A ?_
 refine z4N (z2D [H.length,H.length+1]) ?_
 refine z6J ?_
 refine zEp rfl rfl (lAL _) ?_
 refine z0L (args:=[.agg [.int .i64 op,.str s,lst nl l]]) rfl (k1 W) ?_ ?_
 rotate_left
 ·rintro u V' (⟨v,hu,_⟩ | ⟨p,_,hf⟩)
  ·cases hu
  ·exact hf
 rintro u W1 (⟨v,hu,hv,u1,u2,u3⟩ | ⟨p,hu,_⟩)
 rotate_left
 ·cases hu
 cases hu
 subst hv
 refine z1k (zFQ u1) ?_
 refine zEp rfl rfl (by omega) ?_
 refine z0L (args:=[.agg [.int .i64 op2,.str s2,lst nl2 l2]]) rfl (k2 W1) ?_ ?_
 rotate_left
 ·rintro u V' (⟨v,hu,_⟩ | ⟨p,_,hf⟩)
  ·cases hu
  ·exact hf
 rintro u W2 (⟨v,hu,hv,q1,q2,q3⟩ | ⟨p,hu,_⟩)
 rotate_left
 ·cases hu
 cases hu
 subst hv
 refine z1k (zFQ q1) ?_
 have zo:∀ (j:Nat) (b:Blk),W[j]? =some b→W2[j]? =some b:=fun j b h=>q1 _ _ (u1 _ _ h)
 have z1:=zo _ _ w1
 have z2:=zo _ _ w2
 have zp:=wp.mono (K:=W2) fun j b _ h=>zo j b h
 have zm1:=q1 _ _ u2
 have zl:H.length+2≤W2.length:=by omega
 have hW2:W2.length≤W2.length:=lAL _
 refine z6J ?_
 refine z0s (out:=[zLm (.mk op s nl l) (W.length+1),zLm (.mk op2 s2 nl2 l2) (W1.length+1)]) rfl rfl ?_
 refine z6J ?_
 refine zEp rfl rfl (by omega) ?_
 refine z0S (out:=[zLm (.mk op s nl l) (W.length+1),zLm (.mk op2 s2 nl2 l2) (W1.length+1)]) rfl ?_
 refine z1k z2M ?_
 refine zEp rfl rfl (by simp;omega) ?_
 have hzl:(List.zipWith plA (places.take i) ms).length≤1000:=by
  rw [List.length_zipWith];omega
 have nlo:∀ j,j<H.length+2→∀ k,pv≠.sl j 0 k 2:=fun j hj=>zp.ne hj
 refine z3w (v:=pv) rfl zp rfl rfl rfl (by omega) zl ?_
 intro pv' Z hko hpres hlen hfr
 have hko2:=hzs (W.length+1,W1.length+1)
 have hko:z2h 2 (H.length+2) Z pv' (List.zipWith plA (places.take (i+1)) (ms++[(W.length+1,W1.length+1)])):=by rw [hko2];exact hko
 have g1:=hpres _ _ (nlo _ (by omega)) z1
 have g2:=hpres _ _ (nlo _ (by omega)) z2
 have hmap:∀ (j:Nat),W2[j]? =some (.map [] 0)→Z[j]? =some (.map [] 0):=fun j h=>hpres j _ (fun k e=>by
  rcases zp.2 with ⟨_,e2⟩ | ⟨kb,e2,g,_,_⟩
  ·rw [e2] at e;cases e
  ·rw [e2] at e
   injection e with e
   subst e
   rw [g] at h;cases h) h
 refine z1k (z0c fun j hj b hb'=>?_) ?_
 ·simp only [lAV,lA7,or_false] at hj
  have hjl:j<W2.length:=by omega
  rw [lAN hjl] at hb'
  exact hpres _ _ (nlo _ (by omega)) hb'
 refine z6J ?_
 refine zRN rfl rfl rfl (by omega) ?_
 refine zMJ (p:=0+4) hko.shape rfl rfl g2 (by simp) ?_
 refine z4W ?_
 refine z6J ?_
 have hHl:∀ (j:Nat) (b:Blk),H[j]? =some b→j<H.length:=fun j b h=>(lAA.1 h).1
 have hml2:∀ m∈ms,m.1<W.length∧m.2<W.length:=fun m hm=>⟨(lAA.1 (wm m hm).1).1,(lAA.1 (wm m hm).2.1).1⟩
 refine ⟨hc,rfl,ms++[(W.length+1,W1.length+1)],pv',by simp [hml],fun j b h=>?_,z0K g1 (by omega),lAT (by omega),hko.mono fun j b h1 h2=>z0K h2 (by omega),fun m hm=>?_,?_,by simp;omega⟩
 ·have hj:=hHl j b h
  exact z0K (hpres j b (nlo _ (by omega)) (zo j b (wo j b h))) (by omega)
 ·rcases lA5.1 hm with hm | hm
  ·obtain ⟨a,b,c,d⟩:=wm m hm
   have hne:∀ j,W[j]? =some (.map [] 0)→H.length+1≠j:=fun j h e=>by
    subst e
    rw [w2] at h;cases h
   exact ⟨z0K (hmap _ (zo _ _ a)) (hne _ a),z0K (hmap _ (zo _ _ b)) (hne _ b),c,d⟩
  ·simp only [lAR] at hm
   subst hm
   exact ⟨z0K (hmap _ zm1) (by simp only;omega),z0K (hmap _ q2) (by simp only;omega),by simp only;omega,by simp only;omega⟩
 ·rw [lCN,List.nodup_append]
  refine ⟨wn,?_,fun a ha b hb e=>?_⟩
  ·simp;omega
  ·obtain ⟨m,hm,ha⟩:=lDA.1 ha
   obtain ⟨h1,h2⟩:=hml2 m hm
   simp only [lCA,List.flatMap_nil,lAJ,lAV,lA7,or_false] at ha hb
   rcases ha with rfl | rfl<;>rcases hb with rfl | rfl<;>omega
theorem zDc {P:Program} {H:z0B} {al:AL} {K:KL} {Qp:AL→AV→z0B→Prop} {os:List IOper} {d:Nat} {x:Arg} {as_:List Arg} {sz:Nat} {lo hi:Bool} {wv:AV} {xs:List AV} {bs:List AV} {a b:Nat}
  (hx:evL al x=wv) (hs:Sl sz wv xs) (ha:z1G al as_=bs) (hb:z2R xs.length lo hi bs=some (a,b)) (h:∀ v,Sl sz v ((xs.drop a).take (b-a))→VV P os ((d,v)::al) H K Qp) :
  VV P (⟨some d,.i (.d (.sliceSl sz lo hi)),x::as_,none,none⟩::os) al H K Qp:=by
 cases hs with
 | nil =>
  refine z2K (v:=.nilslice) ?_ (h _ (by simpa using Sl.nil))
  have:z2R 0 lo hi bs=some (a,b):=hb
  simp only [z1G,hx,ha,z1t,z3g,this]
 | list =>
  refine z2K (v:=.list sz ((xs.drop a).take (b-a))) ?_ (h _ (.list _))
  simp only [z1G,hx,ha,z1t,z3g,if_true,hb]
theorem zAN {v:AV} {w:List Bt} {i j:Nat} (h:Sl 1 v (((w.map AV.str).drop i).take (j-i))):Sl 1 v ((sub w i j).map .str):=by
 unfold sub
 rw [lDW,lD3];exact h
def z3s (x:List Bt) (p:Nat) (w:List Bt):Bool:=decide (w.length≤x.length-p)&&(sub x p (p+w.length)==w)
theorem a134 {xv wv:AV} {x w:List Bt} {p:Nat} (hx:Sl 1 xv (x.map .str)) (hw:Sl 1 wv (w.map .str)) (hp:p≤x.length) (hxl:x.length≤1000000) (hwl:w.length≤1000000) (H:z0B):z0C PP 114 [xv,.int .i64 p,wv] H (z1D H (.bool (z3s x p w))):=by
 refine z0C.gives (zVZ.c3 z0P mixed rfl ?_)
 rw [lAJ]
 have hlx:(x.map AV.str).length=x.length:=lAD _
 have hlw:(w.map AV.str).length=w.length:=lAD _
 refine z0A ?_
 refine z6N rfl rfl (by omega) (by omega) ?_
 have e1:decide (((w.map AV.str).length:Int)≤((x.map AV.str).length:Int)-(p:Int))=decide (w.length≤x.length-p):=by rw [hlx,hlw];simp only [lAP];omega
 refine z0A ?_
 rw [e1]
 unfold z3s
 cases hc:decide (w.length≤x.length-p)
 ·refine z0A ?_
  exact z0W rfl (z0w (z0N.bool _))
 simp only [lAE] at hc
 refine z0A ?_
 rw [hlw]
 refine z1N rfl rfl (by omega) ?_
 refine z0A ?_
 refine zDc (a:=p) (b:=p+w.length) rfl hx rfl (by rw [hlx];exact z5V (by omega) (by omega)) ?_
 intro v hv
 have hv:=zAN hv
 refine z0A ?_
 refine z0J rfl (c17 hv hw (lBK (zAp _ _ _) (by omega)) _) ?_
 refine z0A ?_
 exact z0W rfl (z0w (z0N.bool _))
def zRW (l:List Pl) (a b:List Bt):Bool:=l.isEmpty||l.any fun p=>z3N (z6G zCC p.1) a&&z0r (z6G zCC p.2) b
structure AkV (r:Ru) (ms:List (Nat × Nat)) (plv v:AV):Prop where
 eq:v=.cptr [.int .i64 r.kind,z0T r.pn r.pairs,z0U r.ln r.places,.bool r.below,plv]
 ln:ms.length=r.places.length
 sp:Sl 2 plv (List.zipWith plA r.places ms)
 nd:((z2d r.places ms).map Prod.fst).Nodup
 ok:∀ p∈r.places,zNY p.1∧zNY p.2∧p.1.size≤100∧p.2.size≤100
 nl:r.places.length≤1000
 np:r.pairs.length≤1000
 pl:∀ p∈r.pairs,p.a.l.length≤1000∧p.b.l.length≤1000
theorem zNG {l:List Pl} {ms:List (Nat × Nat)} {i:Nat} {p:Pl} {m:Nat × Nat} (hp:l[i]? =some p) (hm:ms[i]? =some m):(m.1,z1W (DR p.1))∈z2d l ms∧(m.2,z1W (DR p.2))∈z2d l ms:=by
 have:(p,m)∈l.zip ms:=lAF (i:=i) (by rw [List.getElem?_zip_eq_some];exact ⟨hp,hm⟩)
 unfold z2d
 exact ⟨lDA.2 ⟨_,this,by simp⟩,lDA.2 ⟨_,this,by simp⟩⟩
section
variable {r:Ru} {ms:List (Nat × Nat)} {plv v:AV} {X:z0B}
theorem a135 {av bv:AV} {a b:List Bt} (hA:AkV r ms plv v) (ha:Sl 1 av (a.map .str)) (hb:Sl 1 bv (b.map .str)) (ga:GW a) (gb:GW b) (hal:a.length≤1000000) (hbl:b.length≤1000000) (hX:AskMs (z2d r.places ms) X X) :
  z0C PP 127 [v,av,bv] X (fun u H'=>u=.ret (.bool (zRW r.places a b))∧AskMs (z2d r.places ms) X H'):=by
 have hsp:=hA.sp
 have hln:=hA.ln
 have hnl:=hA.nl
 have hzl:(List.zipWith plA r.places ms).length=r.places.length:=by rw [List.length_zipWith];omega
 obtain rfl:=hA.eq
 refine zVW.c3 z0P mixed rfl ?_
 rw [lAJ]
 generalize z0T r.pn r.pairs=pv at *
 generalize z0U r.ln r.places=lv at *
 refine z0A ?_
 refine z0H r.places.length (fun i al W=>al=[(0,.cptr [.int .i64 r.kind,pv,lv,.bool r.below,plv]),(1,av),(2,bv),(7,.int .i64 i)]∧AskMs (z2d r.places ms) X W∧(r.places.take i).any (fun p=>z3N (z6G zCC p.1) a&&z0r (z6G zCC p.2) b)=false) ⟨rfl,hX,by simp⟩ ?_
 rintro i _ W hi ⟨rfl,wi,w1⟩
 have e1:decide ((i:Int)<((List.zipWith plA r.places ms).length:Int))=decide (i<r.places.length):=by rw [hzl];simp only [lAP];omega
 refine z0A ?_
 rw [e1]
 cases hc:decide (i<r.places.length)
 ·simp only [lAC] at hc
  have:r.places.take i=r.places:=lAQ (by omega)
  rw [this] at w1
  refine z0A ?_
  refine z0W rfl ⟨?_,wi⟩
  unfold zRW
  rw [w1,hzl,Bool.or_false]
  have:((r.places.length:Int)==0)=r.places.isEmpty:=by
   cases r.places with
   | nil=>rfl
   | cons a l=>simp;omega
  rw [this];rfl
 simp only [lAE] at hc
 obtain ⟨p,hp⟩:=z0M (l:=r.places) (i:=i) hc
 obtain ⟨m,hm⟩:=z0M (l:=ms) (i:=i) (by omega)
 obtain ⟨m1,m2⟩:=zNG hp hm
 obtain ⟨f1,f2,s1,s2⟩:=hA.ok p (lAF hp)
 have q1:z8y (DR p.1) m.1 (zLm p.1 m.1) 0 (z6G zCC p.1):=zGk (.list _) f1 s1 p.1 0 (z6n _)
 have q2:z8y (DR p.2) m.2 (zLm p.2 m.2) 0 (z6G zCC p.2):=zGk (.list _) f2 s2 p.2 0 (z6n _)
 have hu:(List.zipWith plA r.places ms)[i]? =some (.agg [zLm p.1 m.1,zLm p.2 m.2]):=by
  rw [List.getElem?_zipWith,hp,hm];rfl
 generalize zLm p.1 m.1=la at *
 generalize zLm p.2 m.2=ra at *
 refine z0A ?_
 refine z0L rfl (a205 q1 ha ga hal (wi.get m1)) ?_ ?_
 rotate_left
 ·rintro u V' ⟨hu,_⟩
  cases hu
 rintro u W1 ⟨hu',hin⟩
 cases hu'
 have wi1:=wi.step hA.nd m1 hin
 have hsnoc:(r.places.take (i+1)).any (fun p=>z3N (z6G zCC p.1) a&&z0r (z6G zCC p.2) b)=(z3N (z6G zCC p.1) a&&z0r (z6G zCC p.2) b):=by
  rw [lA1,lDJ,w1,hp];simp
 cases hb1:z3N (z6G zCC p.1) a
 ·rw [hb1,lD0] at hsnoc
  refine z0A ?_
  exact ⟨by omega,rfl,wi1,hsnoc⟩
 rw [hb1,lCW] at hsnoc
 refine z0A ?_
 refine z0L rfl (a206 q2 hb gb hbl (wi1.get m2)) ?_ ?_
 rotate_left
 ·rintro u V' ⟨hu,_⟩
  cases hu
 rintro u W2 ⟨hu',hin2⟩
 cases hu'
 have wi2:=wi1.step hA.nd m2 hin2
 cases hb2:z0r (z6G zCC p.2) b
 ·rw [hb2] at hsnoc
  refine z0A ?_
  exact ⟨by omega,rfl,wi2,hsnoc⟩
 ·refine z0A ?_
  refine z0W rfl ⟨?_,wi2⟩
  have:r.places.any (fun p=>z3N (z6G zCC p.1) a&&z0r (z6G zCC p.2) b)=true:=lA0.2 ⟨p,lAF hp,by simp [hb1,hb2]⟩
  unfold zRW
  rw [this,Bool.or_true];rfl
end
def zTq (l:List Pl) (x:List Bt) (p:Nat) (ahead f:List Bt):Bool:=z3s x p f&&zRW l ahead (x.drop (p+f.length))
def atR (r:Ru) (x:List Bt) (p:Nat) (ahead:List Bt):List Nat:=(List.range r.pairs.length).filter fun n=>zTq r.places x p ahead (r.pairs.getD n ⟨⟨true,[]⟩,⟨true,[]⟩⟩).a.l
theorem zJh {X:z0B} {L:List (Nat × (z3T→Prop))} {W:z0B} (h:AskMs L X W) {lo:Nat} {kv:AV} {l:List AV} (hk:z1R lo W kv l):∀ p∈L,∀ k,kv≠.sl p.1 0 k 1:=by
 intro p hp k e
 obtain ⟨es,c,_,hg⟩:=h.at_ p hp
 rcases hk with ⟨_,e2⟩ | ⟨kb,e2,g,_,_⟩
 ·rw [e2] at e;cases e
 ·rw [e2] at e
  injection e with e
  subst e
  rw [g] at hg;cases hg
theorem z1R.lower {lo lo':Nat} {X:z0B} {kv:AV} {l:List AV} (h:z1R lo X kv l) (hl:lo'≤lo):z1R lo' X kv l:=by
 rcases h with h | ⟨kb,h1,h2,h3,h4⟩
 ·exact .inl h
 ·exact .inr ⟨kb,h1,h2,by omega,h4⟩
theorem zEB {lo n:Nat} {W:z0B} {kv:AV} {l:List AV} (hk:z1R lo W kv l) (hn:n≤lo) (h1:∀ x∈l,x.cells=[x]):∃ K,SealsX n kv W (if l.isEmpty then .nilslice else .list 1 l) K∧(K=W∨∃ kb k,kv=.sl kb 0 k 1∧K=W.set kb .dead):=by
 rcases hk with ⟨rfl,rfl⟩ | ⟨kb,rfl,g,hlo,hne⟩
 ·exact ⟨W,.done _ _,.inl rfl⟩
 ·refine ⟨W.set kb .dead,?_,.inr ⟨kb,_,rfl,rfl⟩⟩
  rw [if_neg (by rw [lCX];exact hne)]
  exact .step kb _ (by omega) g (.base _ _ (.sl 0 _ 1 l rfl (fun x hx=>by rw [h1 x hx];rfl) (by rw [z1J h1,lBP,lCB,lAW]) (by omega))) (.done _ _)
section
variable {r:Ru} {ms:List (Nat × Nat)} {plv v:AV} {X:z0B}
theorem AskMs.sealed {L:List (Nat × (z3T→Prop))} {W K:z0B} (h:AskMs L X W) {kv:AV} {l:List AV} (hk:z1R X.length W kv l) (e:K=W∨∃ kb k,kv=.sl kb 0 k 1∧K=W.set kb .dead):AskMs L X K:=by
 rcases e with rfl | ⟨kb,k,rfl,rfl⟩
 ·exact h
 ·have hn:=zJh h hk
  rcases hk with ⟨_,e⟩ | ⟨kb',e,_,hlo,_⟩
  ·cases e
  ·injection e with e
   subst e
   exact h.own hlo fun p hp e=>hn p hp k (by rw [e])
theorem AskMs.grow {L:List (Nat × (z3T→Prop))} {W Z:z0B} (h:AskMs L X W) {kv:AV} {l:List AV} (hk:z1R X.length W kv l) (hp:∀ (j:Nat) (b:Blk),(∀ k,kv≠.sl j 0 k 1)→W[j]? =some b→Z[j]? =some b) (hl:W.length≤Z.length):AskMs L X Z :=
 h.pres (fun j b _ hj hb=>hp j b (hk.ne hj) hb) (fun p hq b hb=>hp _ b (zJh h hk p hq) hb) hl
theorem a75 {xv av:AV} {x a:List Bt} {p:Nat} (hA:AkV r ms plv v) (hx:Sl 1 xv (x.map .str)) (ha:Sl 1 av (a.map .str)) (gx:GW x) (ga:GW a) (hxl:x.length≤1000000) (hal:a.length≤1000000) (hp:p≤x.length) (hX:AskMs (z2d r.places ms) X X) :
  z0C PP 68 [v,xv,.int .i64 p,av] X (zLn (fun u H'=>u=z2P (atR r x p a)∧AskMs (z2d r.places ms) X H') (fun _ _=>False)):=by
 have hnp:=hA.np
 have hpl:=hA.pl
 have k135:=fun (bv:AV) (b:List Bt) (W:z0B) (hb:Sl 1 bv (b.map .str)) gb hbl hW=>a135 (X:=W) (bv:=bv) (b:=b) hA ha hb ga gb hal hbl hW
 obtain rfl:=hA.eq
 refine z0C.sealed (n:=X.length) ?_
 refine is68.c4 z0P mixed rfl ?_
 rw [lAJ]
 have hsp:=zCB r.pn r.pairs
 have hlp:(r.pairs.map z2e).length=r.pairs.length:=lAD _
 have hlx:(x.map AV.str).length=x.length:=lAD _
 generalize z0T r.pn r.pairs=pv at *
 generalize z0U r.ln r.places=lv at *
 refine z0A ?_
 refine z0H r.pairs.length (fun n al W=>∃ kw,al=[(0,.cptr [.int .i64 r.kind,pv,lv,.bool r.below,plv]),(1,xv),(2,.int .i64 p),(3,av),(9,kw),(10,.int .i64 n)]∧AskMs (z2d r.places ms) X W∧z1R X.length W kw (((List.range n).filter fun n=>zTq r.places x p a (r.pairs.getD n ⟨⟨true,[]⟩,⟨true,[]⟩⟩).a.l).map z0k)) ⟨_,rfl,hX,.inl ⟨rfl,rfl⟩⟩ ?_
 rintro n _ W hn ⟨kw,rfl,wi,wk⟩
 have e1:decide ((n:Int)<((r.pairs.map z2e).length:Int))=decide (n<r.pairs.length):=by rw [hlp];simp only [lAP];omega
 refine z0A ?_
 rw [e1]
 cases hc:decide (n<r.pairs.length)
 ·simp only [lAC] at hc
  obtain rfl:n=r.pairs.length:=by omega
  refine z0A ?_
  obtain ⟨K,g1,g2⟩:=zEB (n:=X.length) wk (lAL _) (fun y hy=>by obtain ⟨q,_,rfl⟩:=lBB.1 hy;rfl)
  refine z0W rfl (.inl ⟨_,_,K,rfl,g1,?_,wi.sealed wk g2⟩)
  unfold z2P atR
  simp only [lD7]
 simp only [lAE] at hc
 obtain ⟨pr,hpr⟩:=z0M (l:=r.pairs) (i:=n) hc
 have hu:(r.pairs.map z2e)[n]? =some (.agg [z0X pr.a,z0X pr.b]):=z1A (f:=z2e) hpr
 obtain ⟨hl1,hl2⟩:=hpl pr (lAF hpr)
 have hgd:(r.pairs.getD n ⟨⟨true,[]⟩,⟨true,[]⟩⟩).a.l=pr.a.l:=by rw [lAB,hpr];rfl
 have hsw:=z6S pr.a
 have hlw:(pr.a.l.map AV.str).length=pr.a.l.length:=lAD _
 have k134:=a134 hx hsw hp hxl (by omega)
 have hhit:zTq r.places x p a (r.pairs.getD n ⟨⟨true,[]⟩,⟨true,[]⟩⟩).a.l=(z3s x p pr.a.l&&zRW r.places a (x.drop (p+pr.a.l.length))):=by rw [hgd];rfl
 refine z0A ?_
 refine z0J rfl (k134 _) ?_
 cases hf:z3s x p pr.a.l
 ·rw [hf,lD0] at hhit
  refine z0A ?_
  exact ⟨hc,kw,rfl,wi,by rw [z9c hhit];exact wk⟩
 rw [hf,lCW] at hhit
 have hle:pr.a.l.length≤x.length-p:=by
  unfold z3s at hf
  rw [lAS,lAE] at hf
  exact hf.1
 refine z0A ?_
 rw [hlw]
 refine z1N rfl rfl (by omega) ?_
 refine z0A ?_
 refine zDc (a:=p+pr.a.l.length) (b:=x.length) rfl hx rfl (by rw [hlx];exact zBu (by omega)) ?_
 intro bv hbv
 have hbv:=zAN hbv
 have hdr:sub x (p+pr.a.l.length) x.length=x.drop (p+pr.a.l.length):=zAh x _
 rw [hdr] at hbv
 refine z0A ?_
 refine z0L rfl (k135 bv _ W hbv (gx.drop _) (by simp;omega) wi.self) ?_ ?_
 rotate_left
 ·rintro u V' ⟨hu,_⟩
  cases hu
 rintro u W1 ⟨hu',hin⟩
 cases hu'
 have wi1:=wi.trans hin
 have wk1:z1R X.length W1 kw _:=wk.mono' fun j k b e hj=>hin.old j b (fun q hq e'=>zJh wi wk q hq k (by rw [e,e'])) hj
 cases hm:zRW r.places a (x.drop (p+pr.a.l.length))
 ·rw [hm] at hhit
  refine z0A ?_
  exact ⟨hc,kw,rfl,wi1,by rw [z9c hhit];exact wk1⟩
 ·rw [hm] at hhit
  refine z0A ?_
  refine z0S (out:=[z0k n]) rfl ?_
  have hfl:=z3X (fun n=>zTq r.places x p a (r.pairs.getD n ⟨⟨true,[]⟩,⟨true,[]⟩⟩).a.l) n
  refine z8N (kv:=kw) rfl wk1 rfl rfl (z2t _) (by rw [lAD];omega) wi1.len ?_
  intro kv' Z hko hpres hlen hfr
  refine z0A ?_
  exact ⟨hc,kv',rfl,wi1.grow wk1 hpres hlen,by rw [zEN hhit,lBE];exact hko⟩
def zAE (r:Ru) (x:List Bt) (p:Nat):List Nat:=atR r x p (x.take p)
theorem z8g (l:List Nat):AV.scalar (z2P l)=true∧(z2P l).cells=[z2P l]:=by
 unfold z2P
 split<;>exact ⟨rfl,rfl⟩
def zQG (l:List (List Nat)):AV:=if l.isEmpty then .nilslice else .list 1 (l.map z2P)
theorem zPz (l:List (List Nat)):Sl 1 (zQG l) (l.map z2P):=by
 unfold zQG
 cases l with
 | nil=>exact .nil
 | cons a l=>exact .list _
theorem a35 {xv:AV} {x:List Bt} (hA:AkV r ms plv v) (hx:Sl 1 xv (x.map .str)) (gx:GW x) (hxl:x.length≤1000000) (hX:AskMs (z2d r.places ms) X X) :
  z0C PP 32 [v,xv] X (zLn (fun u H'=>u=zQG ((List.range x.length).map (zAE r x))∧AskMs (z2d r.places ms) X H') (fun _ _=>False)):=by
 have k75:=fun (p:Nat) (av:AV) (a:List Bt) (W:z0B) ha ga hal hp hW=>a75 (X:=W) (av:=av) (a:=a) (p:=p) hA hx ha gx ga hxl hal hp hW
 generalize hv:v=v0 at *
 refine z0C.sealed (n:=X.length) ?_
 refine is32.c2 z0P mixed rfl ?_
 rw [lAJ]
 have hlx:(x.map AV.str).length=x.length:=lAD _
 refine z0A ?_
 refine z0H x.length (fun p al W=>∃ kw,al=[(0,v0),(1,xv),(5,kw),(6,.int .i64 p)]∧AskMs (z2d r.places ms) X W∧z1R X.length W kw (((List.range p).map (zAE r x)).map z2P)) ⟨_,rfl,hX,.inl ⟨rfl,rfl⟩⟩ ?_
 rintro p _ W hp ⟨kw,rfl,wi,wk⟩
 have e1:decide ((p:Int)<((x.map AV.str).length:Int))=decide (p<x.length):=by rw [hlx];simp only [lAP];omega
 refine z0A ?_
 rw [e1]
 cases hc:decide (p<x.length)
 ·simp only [lAC] at hc
  obtain rfl:p=x.length:=by omega
  refine z0A ?_
  obtain ⟨K,g1,g2⟩:=zEB (n:=X.length) wk (lAL _) (fun y hy=>by obtain ⟨q,_,rfl⟩:=lBB.1 hy;exact (z8g q).2)
  refine z0W rfl (.inl ⟨_,_,K,rfl,g1,?_,wi.sealed wk g2⟩)
  unfold zQG
  simp only [lD7]
 simp only [lAE] at hc
 refine z0A ?_
 refine zDc (a:=0) (b:=p) rfl hx rfl (by rw [hlx];exact z8u (by omega)) ?_
 intro av ha
 have ha:=zAN ha
 have hdr:sub x 0 p=x.take p:=by unfold sub;simp
 rw [hdr] at ha
 refine z0L rfl (k75 p av _ W ha (gx.take _) (by simp;omega) (by omega) wi.self) ?_ ?_
 rotate_left
 ·rintro u V' (⟨v,hu,_⟩ | ⟨p,_,hf⟩)
  ·cases hu
  ·exact hf.elim
 rintro u W1 (⟨u',hu,hv',hin⟩ | ⟨p,hu,_⟩)
 rotate_left
 ·cases hu
 cases hu
 have wi1:=wi.trans hin
 have wk1:z1R X.length W1 kw _:=wk.mono' fun j k b e hj=>hin.old j b (fun q hq e'=>zJh wi wk q hq k (by rw [e,e'])) hj
 obtain ⟨sc1,sc2⟩:=z8g (atR r x p (x.take p))
 rw [←hv'] at sc1 sc2
 have hrow:u=z2P (zAE r x p):=hv'
 have hshape:(∃ l,u=.list 1 l)∨u=.nilslice:=by
  rw [hv']
  unfold z2P
  split
  ·exact .inr rfl
  ·exact .inl ⟨_,rfl⟩
 refine z0S (out:=[u]) (by rcases hshape with ⟨l,rfl⟩ | rfl<;>rfl) ?_
 have hall:(((List.range p).map (zAE r x)).map z2P).all AV.scalar=true:=by
  rw [List.all_map,lAZ];intro q _;exact (z8g q).1
 refine z8N (kv:=kw) rfl wk1 rfl sc1 hall (by simp;omega) wi1.len ?_
 intro kv' Z hko hpres hlen hfr
 refine z0A ?_
 refine ⟨hc,kv',rfl,wi1.grow wk1 hpres hlen,?_⟩
 rw [lDR,lBE,lBE,lBA,lCU,lBA,lCU,←hrow]
 exact hko
end
theorem zYN {H K:z0B} (h:∀ (j:Nat) (b:Blk),H[j]? =some b→K[j]? =some b):∃ G,K=H++G:=by
 refine ⟨K.drop H.length,?_⟩
 apply lCH
 intro j
 rcases lBJ j H.length with hj | hj
 ·rw [lAN hj,lAG hj]
  exact h j _ (lAG hj)
 ·rw [lAM hj,lDM]
  congr 1;omega
theorem z0C.plainE {P:Program} {H:z0B} {f:FuncId} {args:List AV} {v:AV} (hp:z0N v) (h:z0C P f args H (zLn (fun u H'=>u=v∧AskMs [] H H') (fun _ _=>False))):z0C P f args H (z1D H v):=by
 have:=z0C.forgetE (P:=P) (H:=H) (f:=f) (args:=args) (S:=fun u=>u=v) (fun u hu=>by rw [hu];exact hp) (h.mono fun r H' q=>by
  rcases q with ⟨u,hu,hv,hm⟩ | ⟨p,_,hf⟩
  ·exact ⟨u,hu,hv,zYN fun j b hb=>hm.old j b (fun p hp=>by cases hp) hb⟩
  ·exact hf.elim)
 exact this.mono fun r H' q=>by
  obtain ⟨u,hu,hv,hh⟩:=q
  subst hv
  exact ⟨hu,hh⟩
theorem zCE {H:z0B}:AskMs [] H H:=⟨fun p hp=>(by cases hp),fun _ _ _ h=>h,lAL _⟩
theorem zHM (l:List Nat):z0N (z2P l):=by
 unfold z2P
 split
 ·exact z0N.nilslice
 ·exact z0N.list _ fun x hx=>by
   obtain ⟨q,_,rfl⟩:=lBB.1 hx
   exact z0N.int _ _
def z3e (r:Ru) (n:Nat):Nat:=(r.pairs.getD n ⟨⟨true,[]⟩,⟨true,[]⟩⟩).a.l.length
def zAD (kind:Int) (len:Nat→Nat) (b:Int) (n:Nat):Int:=if (decide (b<0)||((kind==2)&&decide ((len n:Int)>b)))||((kind==3)&&decide ((len n:Int)<b)) then len n else b
def z7u (kind:Int) (len:Nat→Nat) (l:List Nat):Int:=l.foldl (zAD kind len) (-1)
def z2c (kind:Int) (len:Nat→Nat) (l:List Nat):List Nat:=l.filter fun n=>(len n:Int)==z7u kind len l
theorem zDR (kind:Int) (len:Nat→Nat) {l:List Nat} {i n:Nat} (h:l[i]? =some n):z7u kind len (l.take (i+1))=zAD kind len (z7u kind len (l.take i)) n:=by
 rw [lA1,h]
 unfold z7u
 rw [lD2];rfl
theorem z8q {α:Type} {q:α→Bool} {l:List α} {i:Nat} {n:α} (h:l[i]? =some n):(l.take (i+1)).filter q=(l.take i).filter q++if q n then [n] else []:=by
 rw [lA1,h,lCV]
 cases hq:q n<;>simp [hq]
theorem zDw {r:Ru} {n:Nat} (h:n<r.pairs.length):∃ p,r.pairs[n]? =some p∧(r.pairs.map z2e)[n]? =some (.agg [z0X p.a,z0X p.b])∧z3e r n=p.a.l.length∧p∈r.pairs:=by
 obtain ⟨p,hp⟩:=z0M (l:=r.pairs) (i:=n) h
 exact ⟨p,hp,z1A (f:=z2e) hp,by unfold z3e;rw [lAB,hp];rfl,lAF hp⟩
theorem a144 (r:Ru) (H:z0B):z0C PP 112 [z6F r] H (z1D H (.bool ((r.kind==2)||(r.kind==3)))):=by
 refine z0C.gives (zVb.c1 z0P mixed rfl ?_)
 rw [lAJ]
 obtain ⟨kind,pn,pairs,ln,places,below⟩:=r
 unfold z6F
 simp only
 refine z1E (z0V ?_)
 refine z0y (.agg [.int .i64 kind,z0T pn pairs,z0U ln places,.bool below]) rfl (by simp only [AV.shaped,z1n,z1p];first | done | rfl) ?_
 have x1:(H++[Blk.cells [.int .i64 kind,z0T pn pairs,z0U ln places,.bool below]])[H.length]? =some (.cells [.int .i64 kind,z0T pn pairs,z0U ln places,.bool below]):=z0E
 show VV _ _ _ (H++[Blk.cells [.int .i64 kind,z0T pn pairs,z0U ln places,.bool below]]) _ _
 generalize hG:[Blk.cells [.int .i64 kind,z0T pn pairs,z0U ln places,.bool below]]=G at *
 refine z0A ?_
 cases h2:(kind==2)
 ·refine z0A ?_
  exact fr
 ·refine z0A ?_
  exact fr
section
variable {r:Ru} {lv:AV} {l:List Nat} {H:z0B}
theorem a145 (hl:Sl 1 lv (l.map z0k)) (hn:∀ n∈l,n<r.pairs.length) (hnp:r.pairs.length≤1000) (hpl:∀ p∈r.pairs,p.a.l.length≤1000) (hll:l.length≤1000000):z0C PP 113 [z6F r,lv] H (z1D H (z2P (z2c r.kind (z3e r) l))):=by
 refine z0C.plainE (zHM _) ?_
 have hpg:=fun n (h:n∈l)=>zDw (r:=r) (hn n h)
 have hsp:=zCB r.pn r.pairs
 refine z0C.sealed (n:=H.length) ?_
 refine zVa.c2 z0P mixed rfl ?_
 rw [lAJ]
 unfold z6F
 have hsc:AV.scalar (z0T r.pn r.pairs)=true:=z1n _ _
 have hsc2:AV.scalar (z0U r.ln r.places)=true:=z1p _ _
 generalize z0T r.pn r.pairs=pv at *
 generalize z0U r.ln r.places=lv2 at *
 refine z1E (z0V ?_)
 refine z0y (.agg [.int .i64 r.kind,pv,lv2,.bool r.below]) rfl (by simp only [AV.shaped,lB3,hsc,hsc2];first | done | rfl) ?_
 have x1:(H++[Blk.cells [.int .i64 r.kind,pv,lv2,.bool r.below]])[H.length]? =some (.cells [.int .i64 r.kind,pv,lv2,.bool r.below]):=z0E
 have xk:=zCE (H:=H).app [Blk.cells [.int .i64 r.kind,pv,lv2,.bool r.below]]
 have xl:(H++[Blk.cells [.int .i64 r.kind,pv,lv2,.bool r.below]]:z0B).length=H.length+1:=by simp
 show VV _ _ _ (H++[Blk.cells [.int .i64 r.kind,pv,lv2,.bool r.below]]) _ _
 generalize (H++[Blk.cells [.int .i64 r.kind,pv,lv2,.bool r.below]]:z0B)=X at *
 have hlm:(l.map z0k).length=l.length:=lAD _
 refine z0A ?_
 refine z0H l.length (fun i al W=>al=[(1,lv),(2,.ptr H.length 0),(5,.int .i64 (z7u r.kind (z3e r) (l.take i))),(6,.int .i64 i)]∧W=X) ⟨rfl,rfl⟩ ?_
 rintro i _ _ hi ⟨rfl,rfl⟩
 have e1:decide ((i:Int)<((l.map z0k).length:Int))=decide (i<l.length):=by rw [hlm];simp only [lAP];omega
 refine z0A ?_
 rw [e1]
 cases hc:decide (i<l.length)
 ·simp only [lAC] at hc
  have htk:l.take i=l:=lAQ (by omega)
  rw [htk]
  generalize hbest:z7u r.kind (z3e r) l=best
  refine z0A ?_
  refine z0H l.length (fun i al W=>∃ kw,al=[(1,lv),(2,.ptr H.length 0),(5,.int .i64 best),(8,kw),(9,.int .i64 i)]∧AskMs [] H W∧W[H.length]? =some (.cells [.int .i64 r.kind,pv,lv2,.bool r.below])∧z1R (H.length+1) W kw (((l.take i).filter fun n=>(z3e r n:Int)==best).map z0k)) ⟨_,rfl,xk,x1,.inl ⟨rfl,rfl⟩⟩ ?_
  clear x1 xk xl hi hc e1 htk
  rintro i _ W hi ⟨kw,rfl,wk,w1,wo⟩
  have e1:decide ((i:Int)<((l.map z0k).length:Int))=decide (i<l.length):=by rw [hlm];simp only [lAP];omega
  refine z0A ?_
  rw [e1]
  cases hc:decide (i<l.length)
  ·simp only [lAC] at hc
   have htk:l.take i=l:=lAQ (by omega)
   rw [htk] at wo
   refine z0A ?_
   obtain ⟨K,g1,g2⟩:=zEB (n:=H.length) wo (by omega) (fun y hy=>by obtain ⟨q,_,rfl⟩:=lBB.1 hy;rfl)
   refine z0W rfl (.inl ⟨_,_,K,rfl,g1,?_,wk.sealed (wo.lower (by omega)) g2⟩)
   unfold z2P z2c
   rw [hbest]
   simp only [lD7]
  simp only [lAE] at hc
  obtain ⟨n,hni⟩:=z0M (l:=l) (i:=i) hc
  have hnv:(l.map z0k)[i]? =some (z0k n):=by rw [lAK,hni];rfl
  obtain ⟨p,hp,hu,hfl,hpm⟩:=hpg n (lAF hni)
  have hsw:=z6S p.a
  have hlw:(p.a.l.map AV.str).length=p.a.l.length:=lAD _
  have hsn:=z8q (q:=fun n=>(z3e r n:Int)==best) hni
  refine z0A ?_
  rw [hlw,←hfl]
  cases hq:((z3e r n:Int)==best)
  ·rw [hq] at hsn
   refine z0A ?_
   exact ⟨hc,kw,rfl,wk,w1,by rw [hsn,if_neg (by simp),lAJ];exact wo⟩
  ·rw [hq] at hsn
   refine z0A ?_
   refine z0S (out:=[z0k n]) rfl ?_
   have hfl2:((l.take i).filter fun n=>(z3e r n:Int)==best).length≤l.length:=lBK (lCD _ _) (by rw [lBR];omega)
   have hwl:=(lAA.1 w1).1
   refine z8N (kv:=kw) rfl wo rfl rfl (z2t _) (by rw [lAD];omega) (by omega) ?_
   intro kv' Z hko hpres hlen hfr
   refine z0A ?_
   exact ⟨hc,kv',rfl,wk.grow (wo.lower (by omega)) hpres hlen,hpres _ _ (wo.ne (by omega)) w1,by rw [hsn,if_pos rfl,lBE];exact hko⟩
 simp only [lAE] at hc
 obtain ⟨n,hni⟩:=z0M (l:=l) (i:=i) hc
 have hnv:(l.map z0k)[i]? =some (z0k n):=by rw [lAK,hni];rfl
 obtain ⟨p,hp,hu,hfl,hpm⟩:=hpg n (lAF hni)
 have hsw:=z6S p.a
 have hlw:(p.a.l.map AV.str).length=p.a.l.length:=lAD _
 have hsn:=zDR r.kind (z3e r) hni
 generalize z7u r.kind (z3e r) (l.take i)=b at *
 generalize z7u r.kind (z3e r) (l.take (i+1))=b' at *
 unfold zAD at hsn
 refine z0A ?_
 rw [hlw,←hfl]
 generalize z3e r n=fl at *
 generalize r.kind=kd at *
 cases h1:decide (b<0)
 rotate_left
 ·have hb:b'=(fl:Int):=by rw [hsn];simp [h1]
  rw [hb]
  refine z0A ?_
  exact ⟨hc,rfl,rfl⟩
 cases h2:(kd==2)
 rotate_left
 ·obtain rfl:kd=2:=by simpa using h2
  refine z0A ?_
  cases h3:decide ((fl:Int)>b)
  ·have hb:b'=b:=by rw [hsn];simp [h1,h3]
   rw [hb]
   refine z0A ?_
   exact ⟨hc,rfl,rfl⟩
  ·have hb:b'=(fl:Int):=by rw [hsn];simp [h1,h3]
   rw [hb]
   refine z0A ?_
   exact ⟨hc,rfl,rfl⟩
 refine z0A ?_
 cases h4:(kd==3)
 ·have hb:b'=b:=by rw [hsn];simp [h1,h2,h4]
  rw [hb]
  refine z0A ?_
  exact ⟨hc,rfl,rfl⟩
 ·obtain rfl:kd=3:=by simpa using h4
  refine z0A ?_
  cases h5:decide ((fl:Int)<b)
  ·have hb:b'=b:=by rw [hsn];simp [h1,h5]
   rw [hb]
   refine z0A ?_
   exact ⟨hc,rfl,rfl⟩
  ·have hb:b'=(fl:Int):=by rw [hsn];simp [h1,h5]
   rw [hb]
   refine z0A ?_
   exact ⟨hc,rfl,rfl⟩
end
end Go.Ab
