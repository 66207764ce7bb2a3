/- Part 44 of the proof. -/
import Derived.Test.YtagcckioikbanaaGreatDoorM32
import Derived.Test.YtagcckioikbanaaGreatDoorM33
import Derived.Test.YtagcckioikbanaaGreatDoorM43
set_option linter.unusedVariables false
set_option linter.unusedSimpArgs false
namespace Go.Ab
open Go
set_option maxRecDepth 100000
set_option maxHeartbeats 8000000
section
variable {H:z0B}
theorem zZb {xs:List AV} (h1:∀ x∈xs,x.cells=[x]) (hsc:xs.all AV.scalar=true) (hn:xs.length≤1000000) (hne:xs≠[]):z0D PP 154 [.list 1 xs] H (fun r H'=>∃ id,r=.ret (.sl id 0 xs.length 1)∧H'[id]? =some (.cells (z0j xs))∧H.length≤id∧AskMs [] H H'):=by
 refine zUN.c1 z0R mixed rfl ?_
 rw [lAK]
 have hfl:z0j xs=xs:=z1B h1
 have hlp:0<xs.length:=lD4.2 hne
 refine z0A ?_
 refine z2S (v:=.bool false) rfl ?_
 refine z0A ?_
 refine z0Z (out:=[]) rfl ?_
 have hys:z1m 1 (H++[Blk.cells []]) (.list 1 xs)=some (xs.length,xs):=by
  show some (xs.length,z0j xs)=_
  rw [hfl]
 refine z0A ?_
 refine z4L (off:=0) (k:=0) (cs:=[]) rfl z0K (by simp) hys hsc (by omega) ?_
 refine z0A ?_
 refine z0Y rfl ⟨(H++[Blk.cells []]:z0B).length,by rw [lBN];rfl,by rw [hfl,lAJ (by simp)];simp,by simp,?_⟩
 refine ⟨fun p hp=>(by cases hp),fun j b _ hb=>?_,by simp⟩
 have hj:=(lAA.1 hb).1
 rw [lAN (by simp;omega),lCE (by omega)]
 exact z0G hb
theorem zZc {xs:List AV} (h2:∀ x∈xs,x.cells.length=2) (hsc:(z0j xs).all AV.scalar=true) (hn:xs.length≤1000000) (hne:xs≠[]):z0D PP 99 [.list 2 xs] H (fun r H'=>∃ id,r=.ret (.sl id 0 xs.length 2)∧H'[id]? =some (.cells (z0j xs))∧H.length≤id∧AskMs [] H H'):=by
 refine is99.c1 z0R mixed rfl ?_
 rw [lAK]
 have hlp:0<xs.length:=lD4.2 hne
 refine z0A ?_
 refine z2S (v:=.bool false) rfl ?_
 refine z0A ?_
 refine z0Z (out:=[]) rfl ?_
 have hys:z1m 2 (H++[Blk.cells []]) (.list 2 xs)=some (xs.length,z0j xs):=rfl
 refine z0A ?_
 refine z4L (off:=0) (k:=0) (cs:=[]) rfl z0K (by simp) hys hsc (by omega) ?_
 refine z0A ?_
 refine z0Y rfl ⟨(H++[Blk.cells []]:z0B).length,by rw [lBN];rfl,by rw [lAJ (by simp)];simp,by simp,?_⟩
 refine ⟨fun p hp=>(by cases hp),fun j b _ hb=>?_,by simp⟩
 have hj:=(lAA.1 hb).1
 rw [lAN (by simp;omega),lCE (by omega)]
 exact z0G hb
end
def zDf (ps:List (Bt × Bt)) (n:Nat):Nat:=(ps.getD n ([],[])).1.length
section
variable {pv av bv:AV} {ps:List (Bt × Bt)} {H:z0B}
theorem zEb {n:Nat} (h:n<ps.length):∃ f t,ps[n]? =some (f,t)∧(ps.map z7B)[n]? =some (.agg [.str f,.str t])∧zDf ps n=f.length∧(f,t)∈ps:=by
 obtain ⟨⟨f,t⟩,hp⟩:=z0M (l:=ps) (i:=n) h
 exact ⟨f,t,hp,by rw [lAM,hp];rfl,by unfold zDf;rw [lAB,hp];rfl,lAF hp⟩
theorem a208 {n b3 b7:Nat} {best:Int} (hs:Sl 2 pv (ps.map z7B)) (hn:n<ps.length) (hpl:∀ p∈ps,p.1.length≤1000000) (h3:H[b3]? =some (.cells [.cptr [pv,av,bv]])) (h7:H[b7]? =some (.cells [.int .i64 best])):z0D PP 165 [z0w n,.ptr b3 0,.ptr b7 0] H (z1A H (.bool (!((zDf ps n:Int)==best)))):=by
 obtain ⟨f,t,hp,hu,hfl,hm⟩:=zEb hn
 have hfl2:=hpl _ hm
 refine zRp.c3 z0R mixed rfl ?_
 rw [lAK,hfl]
 refine z0A ?_
 refine z2S (v:=.cptr [.str f,.str t]) rfl ?_
 refine z0A ?_
 exact z0Y rfl ⟨rfl,rfl⟩
end
set_option maxHeartbeats 16000000
def z5C (q:Nat × Nat):Way:=((q.1:Int),q.2)
def zTQ (kind:Int) (len:Nat→Nat) (l:List (Nat × Nat)) (at_:Nat):List Way :=
 if l.isEmpty then [(-1,at_+1)] else (l.filter fun q=>(z9s kind len (l.map Prod.fst)).any fun n=>(q.1:Int)==(n:Int)).map z5C
theorem zJh (l:List Way):z0N (.list 2 (l.map zBG)):=z0N.list _ fun x hx=>by
 obtain ⟨q,_,rfl⟩:=lA4.1 hx
 exact z0N.agg fun y hy=>by
  simp only [lAT,lA5,or_false] at hy
  rcases hy with rfl | rfl<;>exact z0N.int _ _
theorem zQw (l:List Way):(z0j (l.map zBG)).all AV.scalar=true:=by
 induction l with
 | nil=>rfl
 | cons m l ih =>
  rw [lA6]
  show ([AV.int .i64 m.1,.int .i64 m.2]++z0j (l.map zBG)).all AV.scalar=true
  rw [List.all_append,ih];rfl
theorem zFt {P:Program} {H:z0B} {al:AL} {K:KL} {Qp:AL→AV→z0B→Prop} {os:List IOper} {x y:Arg} {z:AV} {sz:Nat} {xs:List AV} (hx:evL al x=.ptr H.length 0) (hy:evL al y=.list sz xs) (h:VV P os al (H++[.cells [.list sz xs]]) K Qp) :
  VV P (⟨none,.i (.m (.store 1)),[x,y],none,none⟩::os) al (H++[.cells [z]]) K Qp :=
 z0k (.list sz xs) hx hy z0K rfl rfl (by rw [lBC _ _ (lAL _),lBJ];rfl) h
section
variable {pv av bv:AV} {ps:List (Bt × Bt)} {H:z0B}
end
def z9U (l:List (Nat × Nat)):AV:=zJP (l.map z5C)
theorem zRP (l:List (Nat × Nat)):Sl 2 (z9U l) ((l.map z5C).map zBG):=zNx _
theorem zLZ (l:List (Nat × Nat)):AV.scalar (z9U l)=true∧(z9U l).cells=[z9U l]:=by
 unfold z9U zJP
 split<;>exact ⟨rfl,rfl⟩
theorem zMU (l:List (Nat × Nat)):(l.map z5C).map zBG=l.map z3n:=by rw [lB0];rfl
theorem zEG {n lo:Nat} (hn:n≤lo):∀ (kvs:List AV) (ls:List (List (Nat × Nat))) (dn:List AV) (X:z0B),kvs.length=ls.length→(∀ x∈dn,x.cells=[x]) →
  (∀ (i:Nat) (kv:AV) (l:List (Nat × Nat)),kvs[i]? =some kv→ls[i]? =some l→zQs (fun j=>lo≤j) X kv l)→ls.Pairwise (fun a b=>a≠[]→z0j (a.map z3n)≠z0j (b.map z3n)) →
  ∃ K,SealsX n (.list 1 (dn++kvs)) X (.list 1 (dn++ls.map z9U)) K∧(∀ (j:Nat) (b:Blk),j<lo→X[j]? =some b→K[j]? =some b)∧X.length≤K.length
 | [],[],dn,X,_,_,_,_=>⟨X,.done _ _,fun _ _ _ h=>h,lAL _⟩
 | kv::kvs,l::ls,dn,X,hl,hd,hr,hp=>by
  rw [lDC] at hp
  have hd2:∀ x∈dn++[z9U l],x.cells=[x]:=fun x hx=>by
   rcases lBF.1 hx with hx | hx
   ·exact hd x hx
   ·simp only [lA1] at hx;subst hx;exact (zLZ l).2
  have e2:dn++(l::ls).map z9U=(dn++[z9U l])++ls.map z9U:=by simp
  have hr2:=fun (Y:z0B) (hY:∀ (i:Nat) (kv':AV) (l':List (Nat × Nat)),kvs[i]? =some kv'→ls[i]? =some l'→zQs (fun j=>lo≤j) Y kv' l')=>zEG hn kvs ls (dn++[z9U l]) Y (by simpa using hl) hd2 hY hp.2
  rcases hr 0 kv l rfl rfl with ⟨rfl,rfl⟩ | ⟨kb,rfl,g,hlo,hne⟩
  ·obtain ⟨K,g1,g2,g3⟩:=hr2 X fun i kv' l' h1 h2=>hr (i+1) kv' l' h1 h2
   refine ⟨K,?_,g2,g3⟩
   rw [e2]
   have:dn++AV.nilslice::kvs=(dn++[z9U []])++kvs:=by simp [z9U,zJP]
   rw [this]
   exact g1
  ·have hkb:=(lAA.1 g).1
   obtain ⟨K,g1,g2,g3⟩:=hr2 (X.set kb .dead) fun i kv' l' h1 h2=>by
    rcases hr (i+1) kv' l' h1 h2 with ⟨a,b⟩ | ⟨kc,a,b,c,d⟩
    ·exact .inl ⟨a,b⟩
    ·refine .inr ⟨kc,a,z0J b fun e=>?_,c,d⟩
     subst e
     rw [g] at b
     injection b with b
     injection b with b
     exact hp.1 l' (lAF h2) hne b
   refine ⟨K,?_,fun j b hj h=>g2 j b hj (z0J h (by omega)),by simpa using g3⟩
   rw [e2]
   have hrw:z9U l=.list 2 (l.map z3n):=by
    unfold z9U zJP
    rw [if_neg (by simpa using hne),zMU]
   refine .step kb _ (by omega) g (.list 1 _ ((dn++[z9U l])++kvs) (by simp) (fun x hx=>?_) fun i=>?_) g1
   ·rcases lBF.1 hx with hx | hx
    ·rw [hd2 x hx];rfl
    ·obtain ⟨i,hi,rfl⟩:=lBR.1 hx
     obtain ⟨l',hl'⟩:=z0M (l:=ls) (i:=i) (by simp at hl;omega)
     rcases hr (i+1) kvs[i] l' (by simp) hl' with ⟨_,b⟩ | ⟨kc,b,_⟩
     ·rw [b];rfl
     ·rw [b];rfl
   ·have hfd:z0j dn=dn:=z1B hd
    have ef1:z0j (dn++AV.sl kb 0 l.length 2::kvs)=dn++([AV.sl kb 0 l.length 2]++z0j kvs):=by rw [z5x,hfd];rfl
    have ef2:z0j ((dn++[z9U l])++kvs)=(dn++([AV.sl kb 0 l.length 2]++z0j kvs)).set dn.length (z9U l):=by
     rw [z5x,z1B hd2,lBC _ _ (lAL _),lBJ,lA2];rfl
    rw [ef1,ef2,zHv (by simp)]
    split
    ·rename_i e
     subst e
     rw [lAB,lAJ (lAL _),lBJ,hrw]
     exact .base _ _ (.sl 0 _ 2 (l.map z3n) (by simp) (fun x hx=>by obtain ⟨q,_,rfl⟩:=lA4.1 hx;rfl) (by rw [lBL,←z8j,lAW]) (by rw [z8j];omega))
    ·exact .refl _
section
variable {D:Nat→Bt→Bool} {aid mid:Nat} {H:z0B}
def z4M (ps:List (Bt × Bt)) (fs gs:List (Bt→Bool)) (x:Bt):List (List (Nat × Nat)):=(List.range x.length).map (z8M ps fs gs x)
theorem a28s {lk pv av bv:AV} {ps:List (Bt × Bt)} {cs ds:List AV} {fs gs:List (Bt→Bool)} {x:Bt} (hl:LookV D aid mid H lk pv av bv ps cs ds fs gs) (hx:x.length≤1000000) (hin:z0n D mid H H) :
  z0D PP 21 [lk,.str x] H (zNU (fun u H'=>u=.list 1 ((z4M ps fs gs x).map z9U)∧z0n D mid H H') (fun _ _=>False)):=by
 refine z0D.sealed (n:=H.length) ((a28 hl hx hin).mono fun r H' q=>?_)
 obtain ⟨v,rfl,hi,ob,kvs,rfl,hob,hkl,hlo,hrow⟩:=q
 have hml:=hin.lt
 have hlen:(z4M ps fs gs x).length=x.length:=by simp [z4M]
 have hget:∀ (i:Nat) (l:List (Nat × Nat)),(z4M ps fs gs x)[i]? =some l→i<x.length∧l=z8M ps fs gs x i:=fun i l h=>by
  have hi:=(lAA.1 h).1
  rw [hlen] at hi
  unfold z4M at h
  rw [lAM,lCM hi] at h
  injection h with h
  exact ⟨hi,h.symm⟩
 have hone:∀ y∈kvs,y.cells=[y]:=fun y hy=>by
  obtain ⟨i,hi,rfl⟩:=lBR.1 hy
  have:=hrow i (by omega)
  rw [lAB,lAG hi] at this
  rcases this with ⟨_,b⟩ | ⟨kb,b,_⟩<;>(simp only [lB1] at b;rw [b];rfl)
 have hpw:(z4M ps fs gs x).Pairwise (fun a b=>a≠[]→z0j (a.map z3n)≠z0j (b.map z3n)):=by
  rw [lDD]
  intro i j hi hj hij hne e
  obtain ⟨_,e1⟩:=hget i _ (lAG hi)
  obtain ⟨_,e2⟩:=hget j _ (lAG hj)
  rw [e1] at hne e
  rw [e2] at e
  unfold z8M at hne e
  cases ha:atP ps fs gs (x.take i) (x.drop i) with
  | nil=>rw [ha] at hne;exact hne rfl
  | cons a la =>
   cases hb:atP ps fs gs (x.take j) (x.drop j) with
   | nil=>rw [ha,hb] at e;cases e
   | cons b lb =>
    rw [ha,hb] at e
    have h0:=congrArg (fun l=>l[0]?) e
    have h1:=congrArg (fun l=>l[1]?) e
    have h0':(some (AV.int .i64 (a:Nat)))=some (AV.int .i64 (b:Nat)):=h0
    have h1':(some (AV.int .i64 ((i+(ps.getD a ([],[])).1.length:Nat):Int)))=some (AV.int .i64 ((j+(ps.getD b ([],[])).1.length:Nat):Int)):=h1
    injection h0' with h0'
    injection h0' with _ h0'
    injection h1' with h1'
    injection h1' with _ h1'
    have hab:a=b:=by omega
    subst hab
    omega
 have hob2:∀ (j:Nat) (b:Blk),j≠ob→H'[j]? =some b→(H'.set ob .dead)[j]? =some b:=fun j b h1 h2=>z0J h2 fun e=>h1 e.symm
 obtain ⟨K,g1,g2,g3⟩:=zEG (n:=H.length) (lo:=H.length) (lAL _) kvs (z4M ps fs gs x) [] (H'.set ob .dead) (by rw [hkl,hlen]) (fun x hx=>by cases hx) (fun i kv l h1 h2=>by
  obtain ⟨hi,e⟩:=hget i l h2
  have:=hrow i hi
  rw [lAB,h1,←e] at this
  rcases this with ⟨a,b⟩ | ⟨kb,a,b,c,d⟩
  ·exact .inl ⟨a,b⟩
  ·refine .inr ⟨kb,a,hob2 _ _ (fun e=>?_) b,c,d⟩
   subst e
   rw [hob] at b
   injection b with b
   injection b with b
   have hlk:=lAF h1
   rw [b] at hlk
   cases hl:l with
   | nil=>exact d hl
   | cons q l' =>
    rw [hl] at b
    have:(AV.int .i64 q.1)∈kvs:=by rw [b];simp [z3n,z0j,AV.cells]
    obtain ⟨i',hi',e'⟩:=lBR.1 this
    have:=hrow i' (by omega)
    rw [lAB,lAG hi',lB1,e'] at this
    rcases this with ⟨_,b⟩ | ⟨kb,b,_⟩<;>cases b) hpw
 simp only [lC0] at g1
 refine .inl ⟨_,_,K,rfl,.step ob kvs hlo hob (.base _ _ (.sl 0 _ 1 kvs hkl (fun y hy=>by rw [hone y hy];rfl) (by rw [z1B hone,lBL,lCA,lAS (by omega)]) (by omega))) g1,rfl,?_⟩
 exact hi.pres hml (fun j b hj hb=>g2 j b hj (z0J hb (by omega))) (by simpa using g3)
end
theorem zGz {l:List Bt} (h:zKd l=0):zCX l:=by
 unfold zKd at h
 split at h
 ·cases h
 split at h
 ·cases h
 rename_i _ h2
 have h3:∀ i,0<i→i<l.length→l.getD (i-1) []<l.getD i []:=fun i h0 hi=>by
  have h2':(List.range l.length).any (z4A l)=false:=by simpa using h2
  rw [lBV] at h2'
  have:=h2' i (lAZ.2 hi)
  unfold z4A at this
  simp only [lBX,lAQ,lAD,lC5,lAC,not_or,not_and,Decidable.not_not] at this
  exact this.2 h0
 unfold zCX
 rw [lDD]
 intro i j hi hj hij
 induction j with
 | zero=>omega
 | succ j ih =>
  have hs:=h3 (j+1) (by omega) hj
  rw [lAB,lAB,Nat.add_sub_cancel,lAG (by omega),lAG hj] at hs
  simp only [lB1] at hs
  rcases lBB i j with h | h
  ·exact List.lt_trans (ih (by omega) h) hs
  ·have:i=j:=by omega
   subst this;exact hs
def z6d (sg:List Bt) (t:Bt):Bool:=!decide (t∈sg)
section
variable {sv xv:AV} {sg x:List Bt} {r:Ru}
theorem z5y (r:Ru):z6e r=.agg [.int .i64 r.kind,z0T r.pn r.pairs,z0U r.ln r.places,.bool r.below]:=rfl
theorem a52 (hsv:Sl 1 sv (sg.map .str)) (hsg:zCX sg) (hsgn:sg.length≤1000000) (hx:Sl 1 xv (x.map .str)) (hxn:x.length≤1000000) (hr:okR2 r) (H:z0B) :
  z0D PP 41 [.list 4 [z6e r],sv,xv] H (z1A H (.bool ((z7T r++x).any (z6d sg)))):=by
 refine z0D.plainE (z0N.bool _) ?_
 have k104:=fun (X:z0B) (ks:List Bt) hM=>c26 r hr (H:=X) (M:=H.length) (ks:=ks) hM
 have hrs:Sl 4 (.list 4 [z6e r]) [z6e r]:=.list _
 have hr0:[z6e r][0]? =some (.agg [.int .i64 r.kind,z0T r.pn r.pairs,z0U r.ln r.places,.bool r.below]):=rfl
 have hlx:(x.map AV.str).length=x.length:=lAE _
 have hsc:AV.scalar (z0T r.pn r.pairs)=true:=z2E _ _
 have hsc2:AV.scalar (z0U r.ln r.places)=true:=z2F _ _
 rw [z5y] at k104
 generalize z0T r.pn r.pairs=pv at *
 generalize z0U r.ln r.places=lv at *
 generalize hlist:AV.list 4 [z6e r]=rl at *
 refine zYL.c3 z0R mixed rfl ?_
 rw [lAK]
 refine z0A ?_
 refine zLG ?_
 have x7:(H++[Blk.map [] 0])[H.length]? =some (MB []):=z0K
 have xo:∀ (j:Nat) (b:Blk),H[j]? =some b→(H++[Blk.map [] 0])[j]? =some b:=fun j b h=>z0G h
 have xl:(H++[Blk.map [] 0]:z0B).length=H.length+1:=by simp
 generalize (H++[Blk.map [] 0]:z0B)=X at *
 refine z0A ?_
 refine z0F 1 (fun i al W=>al=[(1,sv),(2,xv),(7,.map H.length),(16,rl),(17,.int .i64 1),(18,.int .i64 i)]∧W[H.length]? =some (MB (if i=0 then [] else z0p [] (z7T r)))∧(∀ (j:Nat) (b:Blk),H[j]? =some b→W[j]? =some b)∧H.length+1≤W.length) ⟨rfl,x7,xo,by omega⟩ ?_
 clear x7 xo xl X
 rintro i _ W hi ⟨rfl,w7,wo,wl⟩
 have e1:decide ((i:Int)<1)=decide (i<1):=by simp only [lAP];omega
 have hHl:∀ (j:Nat) (b:Blk),H[j]? =some b→j<H.length:=fun j b h=>(lAA.1 h).1
 refine z0A ?_
 rw [e1]
 cases hc:decide (i<1)
 rotate_left
 ·simp only [lAD] at hc
  obtain rfl:i=0:=by omega
  rw [if_pos rfl] at w7
  refine z0A ?_
  refine z1a (ws:=[.int .i64 r.kind,pv,lv,.bool r.below]) rfl rfl rfl rfl rfl (by simp only [lB4,hsc,hsc2];rfl) ?_
  have y9:(W++[Blk.cells [.int .i64 r.kind,pv,lv,.bool r.below]])[W.length]? =some (.cells [.int .i64 r.kind,pv,lv,.bool r.below]):=z0K
  have y7:=z0G (G:=[Blk.cells [.int .i64 r.kind,pv,lv,.bool r.below]]) w7
  have yo:∀ (j:Nat) (b:Blk),H[j]? =some b→(W++[Blk.cells [.int .i64 r.kind,pv,lv,.bool r.below]])[j]? =some b:=fun j b h=>z0G (wo j b h)
  have yl:(W++[Blk.cells [.int .i64 r.kind,pv,lv,.bool r.below]]:z0B).length=W.length+1:=by simp
  generalize (W++[Blk.cells [.int .i64 r.kind,pv,lv,.bool r.below]]:z0B)=Y at *
  generalize W.length=b9 at *
  refine z0A ?_
  refine z0L rfl (k104 Y [] y7) ?_ ?_
  rotate_left
  ·rintro u V' ⟨hu,_⟩
   cases hu
  rintro u V ⟨_,hU⟩
  have v7:=hU.get
  have hVl:Y.length≤V.length:=by obtain ⟨_,G,rfl⟩:=hU;simp
  refine z0A ?_
  exact ⟨by omega,rfl,v7,fun j b h=>hU.old (by have:=hHl j b h;omega) (yo j b h),by omega⟩
 simp only [lAC] at hc
 obtain rfl:i=1:=by omega
 rw [if_neg (by omega)] at w7
 generalize hks0:z0p [] (z7T r)=ks0 at *
 refine z0A ?_
 refine z0F x.length (fun i al V=>al=[(1,sv),(7,.map H.length),(26,xv),(27,.int .i64 x.length),(28,.int .i64 i)]∧V[H.length]? =some (MB (z0p ks0 (x.take i)))∧(∀ (j:Nat) (b:Blk),H[j]? =some b→V[j]? =some b)∧H.length+1≤V.length) ⟨by rw [hlx];rfl,w7,wo,wl⟩ ?_
 clear w7 wo wl W e1 hi hc
 rintro i _ W hi ⟨rfl,w7,wo,wl⟩
 have e1:decide ((i:Int)<(x.length:Int))=decide (i<x.length):=by simp only [lAP];omega
 refine z0A ?_
 rw [e1]
 cases hc:decide (i<x.length)
 rotate_left
 ·simp only [lAD] at hc
  obtain ⟨s,hs⟩:=z0M (l:=x) (i:=i) hc
  have hu:(x.map AV.str)[i]? =some (.str s):=by rw [lAM,hs];rfl
  have hsn:z0p ks0 (x.take (i+1))=zNY (z0p ks0 (x.take i)) s:=by
   rw [lBA,hs]
   unfold z0p
   rw [List.foldl_append];rfl
  refine z0A ?_
  refine zLB rfl rfl w7 ?_
  refine z0A ?_
  refine ⟨hc,rfl,?_,fun j b h=>z0J (wo j b h) (by have:=hHl j b h;omega),by simpa using wl⟩
  rw [hsn]
  exact lAU (by omega)
 simp only [lAC] at hc
 have htk:x.take i=x:=lAS (by omega)
 rw [htk] at w7
 have hres:(z7T r++x).any (z6d sg)=(z0p ks0 x).any (z6d sg):=by
  rw [←hks0,←z1G,lB6,lA3,lA3]
  constructor
  ·rintro ⟨t,h1,h2⟩
   exact ⟨t,(z8s _ _ _).2 (.inr h1),h2⟩
  ·rintro ⟨t,h1,h2⟩
   rcases (z8s _ _ _).1 h1 with h | h
   ·cases h
   ·exact ⟨t,h,h2⟩
 have hnd:(z0p ks0 x).Nodup:=by rw [←hks0,←z1G];exact z9G _ _ (by simp)
 rw [hres]
 generalize z0p ks0 x=ks at *
 clear hres hc e1 hi htk
 refine z0A ?_
 refine zNs rfl w7 ?_
 have hit:(W++[.iter (some H.length) ks.length [] ks.length])[W.length]? =some (.iter (some H.length) ks.length [] ks.length):=z0K
 have hM:=z0G (G:=[Blk.iter (some H.length) ks.length [] ks.length]) w7
 have ho:∀ (j:Nat) (b:Blk),H[j]? =some b→(W++[Blk.iter (some H.length) ks.length [] ks.length])[j]? =some b:=fun j b h=>z0G (wo j b h)
 generalize hitn:W.length=it at *
 generalize (W++[Blk.iter (some H.length) ks.length [] ks.length]:z0B)=Y at *
 have hitM:it≠H.length:=by omega
 have hit0:H.length<it:=by omega
 refine z0A ?_
 refine z0F ks.length (fun i al V=>∃ seen,seen.length=i∧al=[(1,sv),(36,.ptr it 0)]∧V[it]? =some (.iter (some H.length) ks.length seen ks.length)∧V[H.length]? =some (MB ks)∧(∀ (j:Nat) (b:Blk),H[j]? =some b→V[j]? =some b)∧seen.Nodup∧(∀ j∈seen,j<ks.length)∧(zXB ks seen).any (z6d sg)=false) ⟨[],rfl,rfl,hit,hM,ho,by simp,by simp,rfl⟩ ?_
 clear hit hM ho Y w7 wo wl hitn W
 rintro i _ V hi ⟨seen,hsl,rfl,hit,hM,ho,hsn,hsb,hany⟩
 have hVl:=(lAA.1 hM).1
 refine z0A ?_
 refine zFx rfl hit hM ?_ ?_
 ·intro hall
  have hperm:=zMS hsn hsb hall
  have hf:ks.any (z6d sg)=false:=by
   rw [lBV] at hany ⊢
   exact fun t ht=>hany t (hperm.mem_iff.2 ht)
  rw [hf]
  refine z0A ?_
  exact z0Y rfl (.inl ⟨_,rfl,rfl,fun p hp=>(by cases hp),fun j b _ h=>ho j b h,by omega⟩)
 ·intro i' k hk hns
  have hin:=(lAA.1 hk).1
  have hsn':(seen++[i']).Nodup:=by
   rw [List.nodup_append]
   refine ⟨hsn,by simp,?_⟩
   intro a ha b hb e
   rw [lA1] at hb
   subst hb;subst e;exact hns ha
  have hsb':∀ j∈seen++[i'],j<ks.length:=by
   intro j hj
   rcases lBF.1 hj with h | h
   ·exact hsb j h
   ·rw [lA1.1 h];exact hin
  have hlt:=zHf _ _ hsn' hsb'
  rw [lAH,lB7] at hlt
  have hgo:=zGb ks seen i' k hk
  have hit2:(V.set it (.iter (some H.length) ks.length (seen++[i']) ks.length))[it]? =some (.iter (some H.length) ks.length (seen++[i']) ks.length):=zKA hit
  have hM2:(V.set it (.iter (some H.length) ks.length (seen++[i']) ks.length))[H.length]? =some (MB ks):=zCC hM (fun e=>hitM e.symm)
  have ho2:∀ (j:Nat) (b:Blk),H[j]? =some b→(V.set it (.iter (some H.length) ks.length (seen++[i']) ks.length))[j]? =some b:=fun j b h=>by
   have:=hHl j b h
   exact zCC (ho j b h) (by omega)
  have hl2:(V.set it (.iter (some H.length) ks.length (seen++[i']) ks.length)).length=V.length:=lCK
  generalize V.set it (.iter (some H.length) ks.length (seen++[i']) ks.length)=Y at *
  clear hit hM ho
  refine z0A ?_
  refine zDy rfl hit2 hM2 hk ?_
  refine z0A ?_
  refine z0L rfl (a105 hsv hsg hsgn (t:=k) _) ?_ ?_
  rotate_left
  ·rintro u V' ⟨i,hu,_⟩
   cases hu
  rintro u V' ⟨ix,hu,_,rfl⟩
  cases hu
  cases hb:decide (k∈sg)
  ·have hf:ks.any (z6d sg)=true:=lA3.2 ⟨k,lAF hk,by unfold z6d;rw [hb];rfl⟩
   rw [hf]
   refine z0A ?_
   exact z0Y rfl (.inl ⟨_,rfl,rfl,fun p hp=>(by cases hp),fun j b _ h=>ho2 j b h,by omega⟩)
  ·refine z0A ?_
   refine ⟨by omega,seen++[i'],by simp [hsl],rfl,hit2,hM2,ho2,hsn',hsb',?_⟩
   rw [hgo,lDK,hany]
   simp [z6d,hb]
end
def z9L:List (List Bt)→Int
 | []=>0
 | w::ws=>if z1N w != 0 then z1N w else z9L ws
theorem zDR:∀ {ws:List (List Bt)} {i:Nat} {w:List Bt},z9L (ws.take i)=0→ws[i]? =some w→(z1N w != 0)=true→z9L ws=z1N w
 | a::ws,0,w,_,h,hv=>by
  simp only [lA0,Option.some.injEq] at h
  subst h
  simp only [z9L,hv,if_true]
 | a::ws,i+1,w,h0,h,hv=>by
  simp only [lBD] at h
  simp only [lBQ,z9L] at h0 ⊢
  cases ha:(z1N a != 0)
  ·rw [ha] at h0
   simp only [lAV,if_false] at h0 ⊢
   exact zDR h0 h hv
  ·rw [ha] at h0
   simp only [if_true] at h0
   rw [h0] at ha;cases ha
theorem zAr:∀ {ws:List (List Bt)} {i:Nat} {w:List Bt},z9L (ws.take i)=0→ws[i]? =some w→(z1N w != 0)=false→z9L (ws.take (i+1))=0
 | a::ws,0,w,_,h,hv=>by
  simp only [lA0,Option.some.injEq] at h
  subst h
  simp [z9L,hv]
 | a::ws,i+1,w,h0,h,hv=>by
  simp only [lBD] at h
  simp only [lBQ,z9L] at h0 ⊢
  cases ha:(z1N a != 0)
  ·rw [ha] at h0
   simp only [lAV,if_false] at h0 ⊢
   exact zAr h0 h hv
  ·rw [ha] at h0
   simp only [if_true] at h0
   rw [h0] at ha;cases ha
def zDh (r:Ru) (sg:List Bt) (ws:List (List Bt)):Int :=
 if z8Q r != 0 then z8Q r else if zKd sg != 0 then zKd sg else if z9L ws != 0 then z9L ws else if (z7T r++ws.headD []).any (z6d sg) then 4 else 0
def zSh (l:List Bt):Int:=if decide ((l.length:Int)>40)||l.any z1Y then 3 else if (l.any fun s=>!z2X s) || !z8z l then 1 else 0
def zKN (r:Ru) (sg:List Bt) (ws:List (List Bt)):Int :=
 if z9h r != 0 then z9h r else if zSh sg != 0 then zSh sg else if z9L ws != 0 then z9L ws else if !((z7T r).all fun t=>decide (t∈sg))||(!ws.isEmpty && !((ws.headD []).all fun t=>decide (t∈sg))) then 4 else 0
structure WsV (wsv:AV) (wvs:List AV) (ws:List (List Bt)):Prop where
 sl:Sl 1 wsv wvs
 len:wvs.length=ws.length
 get:∀ (i:Nat) (v:AV) (w:List Bt),wvs[i]? =some v→ws[i]? =some w→Sl 1 v (w.map .str)∧okW w∧w.length≤1000000
 nl:ws.length≤1000000
section
variable {sv wsv:AV} {sg:List Bt} {wvs:List AV} {ws:List (List Bt)} {r:Ru}
theorem a26 (hsv:Sl 1 sv (sg.map .str)) (hsw:okW sg) (hsn:sg.length≤1000000) (hw:WsV wsv wvs ws) (hr:okR2 r) (H:z0B):z0D PP 17 [z6e r,sv,wsv] H (z1A H (.int .i64 (zDh r sg ws))):=by
 refine z0D.gives (zYx.c3 z0R mixed rfl ?_)
 rw [lAK]
 have k49:=fun H'=>c15 r hr.ok H'
 have k50:=fun H'=>a50 hsv hsw H'
 have k52:=fun (hsg:zCX sg) (xv:AV) (x:List Bt) hx hxn H'=>a52 (xv:=xv) (x:=x) hsv hsg hsn hx hxn hr H'
 have hws:=hw.sl
 have hwl:=hw.len
 have hwn:=hw.nl
 have hsc:AV.scalar (z0T r.pn r.pairs)=true:=z2E _ _
 have hsc2:AV.scalar (z0U r.ln r.places)=true:=z2F _ _
 rw [z5y] at k49 k52 ⊢
 generalize z0T r.pn r.pairs=pv at *
 generalize z0U r.ln r.places=lv at *
 unfold zDh
 refine z1e (z0c ?_)
 refine z1E (.agg [.int .i64 r.kind,pv,lv,.bool r.below]) rfl (by simp only [AV.shaped,lB4,hsc,hsc2];first | done | rfl) ?_
 have x3:(H++[Blk.cells [.int .i64 r.kind,pv,lv,.bool r.below]])[H.length]? =some (.cells [.int .i64 r.kind,pv,lv,.bool r.below]):=z0K
 show VV _ _ _ (H++[Blk.cells [.int .i64 r.kind,pv,lv,.bool r.below]]) _ _
 generalize hG:[Blk.cells [.int .i64 r.kind,pv,lv,.bool r.below]]=G at *
 refine z0A ?_
 refine z0H rfl (k49 _) ?_
 refine z0A ?_
 cases h1:(z8Q r != 0)
 rotate_left
 ·rw [if_pos rfl]
  refine z0A ?_
  exact fr
 rw [if_neg (by simp)]
 refine z0A ?_
 refine z0H rfl (k50 _) ?_
 refine z0A ?_
 cases h2:(zKd sg != 0)
 rotate_left
 ·rw [if_pos rfl]
  refine z0A ?_
  exact fr
 rw [if_neg (by simp)]
 have hasc:zCX sg:=zGz (by simpa using h2)
 refine z0A ?_
 refine z0F ws.length (fun i al W=>al=[(1,sv),(2,wsv),(3,.ptr H.length 0),(23,wsv),(24,.int .i64 ws.length),(25,.int .i64 i)]∧W=H++G∧z9L (ws.take i)=0) ⟨by rw [hwl];rfl,rfl,rfl⟩ ?_
 rintro i _ _ hi ⟨rfl,rfl,v1⟩
 have e1:decide ((i:Int)<(ws.length:Int))=decide (i<ws.length):=by simp only [lAP];omega
 refine z0A ?_
 rw [e1]
 cases hc:decide (i<ws.length)
 rotate_left
 ·simp only [lAD] at hc
  obtain ⟨w,hwi⟩:=z0M (l:=ws) (i:=i) hc
  obtain ⟨wv,hwv⟩:=z0M (l:=wvs) (i:=i) (by omega)
  obtain ⟨g1,g2,g3⟩:=hw.get i wv w hwv hwi
  obtain ⟨_,hcell,_⟩:=z5S g1
  have k51:=fun H'=>c38 g1 g2 H'
  refine z0A ?_
  rw [hcell]
  refine z0A ?_
  refine z0H rfl (k51 _) ?_
  refine z0A ?_
  cases h3:(z1N w != 0)
  ·refine z0A ?_
   exact ⟨hc,rfl,rfl,zAr v1 hwi h3⟩
  ·have he:=zDR v1 hwi h3
   rw [he,h3,if_pos rfl]
   refine z0A ?_
   exact fr
 simp only [lAC] at hc
 have htk:ws.take i=ws:=lAS (by omega)
 rw [htk] at v1
 have hz:(z9L ws != 0)=false:=by rw [v1];rfl
 rw [hz,if_neg (by simp)]
 have e0:decide ((wvs.length:Int)>0) = !ws.isEmpty:=by
  rw [hwl]
  cases ws with
  | nil=>rfl
  | cons a l=>simp
 refine z0A ?_
 rw [e0]
 cases ws with
 | nil =>
  have hd:([]:List (List Bt)).headD []=[]:=rfl
  rw [hd]
  refine z0A ?_
  refine z0Z (out:=[.int .i64 r.kind,pv,lv,.bool r.below]) rfl ?_
  refine z0A ?_
  refine z0L (R:=z1A (((H++G)++[Blk.cells [.int .i64 r.kind,pv,lv,.bool r.below]]).set (H++G).length .dead) (.bool ((z7T r++([]:List Bt)).any (z6d sg)))) rfl (z0D.sealArgs (id:=(H++G).length) (args':=[.list 4 [.agg [.int .i64 r.kind,pv,lv,.bool r.below]],sv,.nilslice]) z0K rfl (fun i=>?_) (k52 hasc .nilslice ([]:List Bt) .nil (by simp) _)) ?_ ?_
  ·match i with
   | 0=>exact .sl 0 1 4 [.agg [.int .i64 r.kind,pv,lv,.bool r.below]] rfl (fun x hx=>by simp only [lA1] at hx;subst hx;rfl) rfl (by simp)
   | 1=>exact .refl _
   | 2=>exact .refl _
   | i+3=>exact .refl _
  rotate_left
  ·rintro u V' ⟨hu,_⟩
   cases hu
  rintro u V ⟨hu,rfl⟩
  cases hu
  have hset:((H++G)++[Blk.cells [.int .i64 r.kind,pv,lv,.bool r.below]]).set (H++G).length .dead=H++(G++[.dead]):=by
   rw [lBC _ _ (lAL _),lBJ,lA2];rfl
  rw [hset]
  cases hb:(z7T r++([]:List Bt)).any (z6d sg)
  ·rw [if_neg (by simp)]
   refine z0A ?_
   exact fr
  ·rw [if_pos rfl]
   refine z0A ?_
   exact fr
 | cons w ws' =>
  obtain ⟨wv,hwv⟩:=z0M (l:=wvs) (i:=0) (by rw [hwl];simp)
  obtain ⟨g1,g2,g3⟩:=hw.get 0 wv w hwv rfl
  obtain ⟨_,hcell,_⟩:=z5S g1
  have hd:(w::ws').headD []=w:=rfl
  rw [hd]
  refine z0A ?_
  rw [hcell]
  refine z0A ?_
  refine z0Z (out:=[.int .i64 r.kind,pv,lv,.bool r.below]) rfl ?_
  refine z0A ?_
  refine z0L (R:=z1A (((H++G)++[Blk.cells [.int .i64 r.kind,pv,lv,.bool r.below]]).set (H++G).length .dead) (.bool ((z7T r++w).any (z6d sg)))) rfl (z0D.sealArgs (id:=(H++G).length) (args':=[.list 4 [.agg [.int .i64 r.kind,pv,lv,.bool r.below]],sv,wv]) z0K rfl (fun i=>?_) (k52 hasc wv w g1 g3 _)) ?_ ?_
  ·match i with
   | 0=>exact .sl 0 1 4 [.agg [.int .i64 r.kind,pv,lv,.bool r.below]] rfl (fun x hx=>by simp only [lA1] at hx;subst hx;rfl) rfl (by simp)
   | 1=>exact .refl _
   | 2=>exact .refl _
   | i+3=>exact .refl _
  rotate_left
  ·rintro u V' ⟨hu,_⟩
   cases hu
  rintro u V ⟨hu,rfl⟩
  cases hu
  have hset:((H++G)++[Blk.cells [.int .i64 r.kind,pv,lv,.bool r.below]]).set (H++G).length .dead=H++(G++[.dead]):=by
   rw [lBC _ _ (lAL _),lBJ,lA2];rfl
  rw [hset]
  cases hb:(z7T r++w).any (z6d sg)
  ·rw [if_neg (by simp)]
   refine z0A ?_
   exact fr
  ·rw [if_pos rfl]
   refine z0A ?_
   exact fr
theorem a33 (hsv:Sl 1 sv (sg.map .str)) (hsw:okW sg) (hsn:sg.length≤1000000) (hw:WsV wsv wvs ws) (hr:okR r) (hoc:(z7T r).length≤1000000) (H:z0B):z0D PP 26 [z6e r,sv,wsv] H (z1A H (.int .i64 (zKN r sg ws))):=by
 refine z0D.gives (is26.c3 z0R mixed rfl ?_)
 rw [lAK]
 have k69:=fun H'=>c16 r hr H'
 have k70:=fun H'=>a70 hsv hsw hsn H'
 have k73:=fun H'=>c29 r hr (by omega) H'
 have k72:=fun (wv:AV) (w:List Bt) (h:Sl 1 wv (w.map .str)) hn H'=>a72 (l:=sg) (w:=w) (wv:=wv) hsv h hsn hn H'
 have hws:=hw.sl
 have hwl:=hw.len
 have hwn:=hw.nl
 have hsc:AV.scalar (z0T r.pn r.pairs)=true:=z2E _ _
 have hsc2:AV.scalar (z0U r.ln r.places)=true:=z2F _ _
 have hocs:Sl 1 (z0X ⟨true,z7T r⟩) ((z7T r).map .str):=z7S ⟨true,z7T r⟩
 rw [z5y] at k69 k73 ⊢
 generalize z0T r.pn r.pairs=pv at *
 generalize z0U r.ln r.places=lv at *
 generalize z0X ⟨true,z7T r⟩=ov at *
 unfold zKN
 have hsr:zSh sg=if decide ((sg.length:Int)>40)||sg.any z1Y then 3 else if (sg.any fun s=>!z2X s) || !z8z sg then 1 else 0:=rfl
 rw [←hsr] at k70
 refine z1e (z0c ?_)
 refine z1E (.agg [.int .i64 r.kind,pv,lv,.bool r.below]) rfl (by simp only [AV.shaped,lB4,hsc,hsc2];first | done | rfl) ?_
 have x3:(H++[Blk.cells [.int .i64 r.kind,pv,lv,.bool r.below]])[H.length]? =some (.cells [.int .i64 r.kind,pv,lv,.bool r.below]):=z0K
 show VV _ _ _ (H++[Blk.cells [.int .i64 r.kind,pv,lv,.bool r.below]]) _ _
 generalize hG:[Blk.cells [.int .i64 r.kind,pv,lv,.bool r.below]]=G at *
 refine z0A ?_
 refine z0H rfl (k69 _) ?_
 refine z0A ?_
 cases h1:(z9h r != 0)
 rotate_left
 ·rw [if_pos rfl]
  refine z0A ?_
  exact fr
 rw [if_neg (by simp)]
 refine z0A ?_
 refine z0H rfl (k70 _) ?_
 refine z0A ?_
 cases h2:(zSh sg != 0)
 rotate_left
 ·rw [if_pos rfl]
  refine z0A ?_
  exact fr
 rw [if_neg (by simp)]
 refine z0A ?_
 refine z0F ws.length (fun i al W=>al=[(1,sv),(2,wsv),(3,.ptr H.length 0),(9,.int .i64 i)]∧W=H++G∧z9L (ws.take i)=0) ⟨rfl,rfl,rfl⟩ ?_
 rintro i _ _ hi ⟨rfl,rfl,v1⟩
 have e1:decide ((i:Int)<(wvs.length:Int))=decide (i<ws.length):=by rw [hwl];simp only [lAP];omega
 refine z0A ?_
 rw [e1]
 cases hc:decide (i<ws.length)
 rotate_left
 ·simp only [lAD] at hc
  obtain ⟨w,hwi⟩:=z0M (l:=ws) (i:=i) hc
  obtain ⟨wv,hwv⟩:=z0M (l:=wvs) (i:=i) (by omega)
  obtain ⟨g1,g2,g3⟩:=hw.get i wv w hwv hwi
  obtain ⟨_,hcell,_⟩:=z5S g1
  have k71:=fun H'=>c42 g1 g2 H'
  refine z0A ?_
  rw [hcell]
  refine z0A ?_
  refine z0H rfl (k71 _) ?_
  refine z0A ?_
  cases h3:(z1N w != 0)
  ·refine z0A ?_
   exact ⟨hc,rfl,rfl,zAr v1 hwi h3⟩
  ·have he:=zDR v1 hwi h3
   rw [he,h3,if_pos rfl]
   refine z0A ?_
   exact fr
 simp only [lAC] at hc
 have htk:ws.take i=ws:=lAS (by omega)
 rw [htk] at v1
 have hz:(z9L ws != 0)=false:=by rw [v1];rfl
 rw [hz,if_neg (by simp)]
 have e0:decide ((wvs.length:Int)>0) = !ws.isEmpty:=by
  rw [hwl]
  cases ws with
  | nil=>rfl
  | cons a l=>simp
 refine z0A ?_
 refine z0H rfl (k73 _) ?_
 refine z0A ?_
 refine z0H rfl (k72 _ _ hocs hoc _) ?_
 cases h4:(z7T r).all fun t=>decide (t∈sg)
 ·rw [if_pos (by simp)]
  refine z0A ?_
  exact fr
 refine z0A ?_
 rw [e0]
 cases ws with
 | nil =>
  rw [if_neg (by simp)]
  refine z0A ?_
  exact fr
 | cons w ws' =>
  obtain ⟨wv,hwv⟩:=z0M (l:=wvs) (i:=0) (by rw [hwl];simp)
  obtain ⟨g1,g2,g3⟩:=hw.get 0 wv w hwv rfl
  obtain ⟨_,hcell,_⟩:=z5S g1
  have hd:(w::ws').headD []=w:=rfl
  rw [hd]
  refine z0A ?_
  rw [hcell]
  refine z0A ?_
  refine z0H rfl (k72 _ _ g1 g3 _) ?_
  cases h5:w.all fun t=>decide (t∈sg)
  ·rw [if_pos (by simp)]
   refine z0A ?_
   exact fr
  ·rw [if_neg (by simp)]
   refine z0A ?_
   exact fr
end
structure RuOkR (r:Ru):Prop where
 ok:∀ p∈r.places,okE p.1∧okE p.2
 fo:∀ p∈r.places,zMW p.1∧zMW p.2∧p.1.size≤100∧p.2.size≤100
 nl:r.places.length≤1000
 np:r.pairs.length≤1000
 pl:∀ p∈r.pairs,p.a.l.length≤1000∧p.b.l.length≤1000
section
variable {r:Ru} {xv yv:AV} {x y:List Bt}
end
structure HoldOkR (r:Ru) (x y:List Bt):Prop where
 ru:RuOkR r
 gx:GW x
 gy:GW y
 xl:x.length≤60
 yl:y.length≤60
section
variable {r:Ru} {sv xv yv:AV} {sg x y:List Bt}
end
end Go.Ab
