/- Part 15 of the proof. -/
import Derived.Test.YtagcckioikbanaaGreatDoorM14
set_option linter.unusedVariables false
set_option linter.unusedSimpArgs false
namespace Go.Ab
variable {P:Program} {φ φ':Phi} {σ σ':Sig} {H H' K:z0B} {w w':World}
mutual
def z6S (κ:Nat→Nat):AV→AV
 | .ptr id off=>.ptr (κ id) off
 | .sl id off n sz=>.sl (κ id) off n sz
 | .map id=>.map (κ id)
 | .cptr cs=>.cptr (z5W κ cs)
 | .list sz xs=>.list sz (z5W κ xs)
 | .clo fn a b=>.clo fn (z5W κ a) (z5W κ b)
 | .iface t v=>.iface t (z6S κ v)
 | .agg cs=>.agg (z5W κ cs)
 | .tuple cs=>.tuple (z5W κ cs)
 | .top=>.top
 | .bool b=>.bool b
 | .int k n=>.int k n
 | .str s=>.str s
 | .nilptr=>.nilptr
 | .glob g=>.glob g
 | .nilslice=>.nilslice
 | .nilmap=>.nilmap
 | .nilfunc=>.nilfunc
 | .niliface=>.niliface
def z5W (κ:Nat→Nat):List AV→List AV
 | []=>[]
 | v::vs=>z6S κ v::z5W κ vs
end
theorem z3g (κ:Nat→Nat):∀ l,z5W κ l=l.map (z6S κ)
 | []=>by simp [z5W]
 | v::vs=>by simp [z5W,z3g κ vs]
theorem zPb (κ:Nat→Nat):z6S κ .top=.top:=by simp [z6S]
theorem z3h (κ:Nat→Nat) (l:List AV) (i:Nat):(z5W κ l).getD i .top=z6S κ (l.getD i .top):=by
 rw [z3g,lAB,lAB,lAM]
 cases l[i]? with
 | none=>simp [zPb]
 | some v=>simp
theorem z1v (κ:Nat→Nat) (l:List AV):(z5W κ l).length=l.length:=by simp [z3g]
theorem zFc (κ:Nat→Nat) (v:AV):(z6S κ v).cells=z5W κ v.cells:=by
 cases v<;>simp [z6S,AV.cells,z5W]
theorem zDM (κ:Nat→Nat):∀ l:List AV,z0j (z5W κ l)=z5W κ (z0j l)
 | []=>by simp [z5W,z0j]
 | v::vs=>by
  have ih:=zDM κ vs
  simp only [z0j,z3g,lBU,lA6,lBP] at ih ⊢
  rw [ih,zFc,z3g]
theorem z7W {κ:Nat→Nat} {x:AV} {c:Value} (h:VRel φ' σ' x c):∀ v,z6S κ v=x→VRel (fun i=>φ' (κ i)) σ' v c:=by
 induction h with
 | top v=>intro u hu;cases u<;>simp [z6S] at hu;exact .top _
 | bool b=>intro u hu;cases u<;>simp [z6S] at hu;subst hu;exact .bool _
 | int k n=>intro u hu;cases u<;>simp [z6S] at hu;obtain ⟨rfl,rfl⟩:=hu;exact .int _ _
 | str l s h=>intro u hu;cases u<;>simp [z6S] at hu;subst hu;exact .str _ _ h
 | nilptr=>intro u hu;cases u<;>simp [z6S] at hu;exact .nilptr
 | ptr id off L h=>intro u hu;cases u<;>simp [z6S] at hu;obtain ⟨rfl,rfl⟩:=hu;exact .ptr _ _ L h
 | cptr cs b o f h r ih =>
  intro u hu;cases u<;>simp [z6S] at hu
  subst hu
  exact .cptr _ b o f (fun i hi=>h i (by rw [z1v];exact hi)) fun i=>ih i _ (z3h κ _ i).symm
 | glob g=>intro u hu;cases u<;>simp [z6S] at hu;subst hu;exact .glob _
 | nilslice=>intro u hu;cases u<;>simp [z6S] at hu;exact .nilslice
 | sl id off n sz cap L h hn hc=>intro u hu;cases u<;>simp [z6S] at hu;obtain ⟨rfl,rfl,rfl,rfl⟩:=hu;exact .sl _ _ _ _ cap L h hn hc
 | list sz xs b o n cap f hsz hx hn h r ih =>
  intro u hu;cases u<;>simp [z6S] at hu
  obtain ⟨rfl,rfl⟩:=hu
  rename_i xs
  refine .list _ _ b o n cap f (fun x hxm=>?_) (by rw [z1v] at hx;exact hx) hn (fun i hi=>h i (by rw [zDM,z1v];exact hi)) fun i=>ih i _ (by rw [zDM,z3h])
  have:=hsz (z6S κ x) (by rw [z3g];exact lDM hxm)
  rw [zFc,z1v] at this;exact this
 | elist sz a =>
  intro u hu;cases u<;>simp [z6S] at hu
  obtain ⟨rfl,hu⟩:=hu
  rename_i xs
  cases xs with
  | nil=>exact .elist _ a
  | cons x xs=>simp [z3g] at hu
 | nilmap=>intro u hu;cases u<;>simp [z6S] at hu;exact .nilmap
 | map id L h=>intro u hu;cases u<;>simp [z6S] at hu;subst hu;exact .map _ L h
 | nilfunc=>intro u hu;cases u<;>simp [z6S] at hu;exact .nilfunc
 | clo fn fs cs fs' cs' hf hc r1 r2 ih1 ih2 =>
  intro u hu;cases u<;>simp [z6S] at hu
  obtain ⟨rfl,rfl,rfl⟩:=hu
  rw [z1v] at hf hc
  exact .clo _ _ _ fs' cs' hf hc (fun i=>ih1 i _ (z3h κ _ i).symm) fun i=>ih2 i _ (z3h κ _ i).symm
 | niliface=>intro u hu;cases u<;>simp [z6S] at hu;exact .niliface
 | iface t v v' r ih=>intro u hu;cases u<;>simp [z6S] at hu;obtain ⟨rfl,rfl⟩:=hu;exact .iface _ _ _ (ih _ rfl)
 | agg cs cs' h r ih =>
  intro u hu;cases u<;>simp [z6S] at hu
  subst hu
  rw [z1v] at h
  exact .agg _ _ h fun i=>ih i _ (z3h κ _ i).symm
 | tuple cs cs' h r ih =>
  intro u hu;cases u<;>simp [z6S] at hu
  subst hu
  rw [z1v] at h
  exact .tuple _ _ h fun i=>ih i _ (z3h κ _ i).symm
def zRU (κ:Nat→Nat):Blk→Blk
 | .dead=>.dead
 | .resv=>.resv
 | .cells cs=>.cells (z5W κ cs)
 | .map es clock=>.map (es.map fun e=>(z6S κ e.1,z6S κ e.2.1,e.2.2)) clock
 | .iter m since seen last=>.iter (m.map κ) since seen last
theorem zPy {κ:Nat→Nat} {L:Loc} {b:Blk} (h:zKj φ' σ' w' L (zRU κ b)):zKj (fun i=>φ' (κ i)) σ' w' L b:=by
 cases b with
 | dead=>trivial
 | resv=>trivial
 | cells cs =>
  obtain ⟨arr,t,fr,h1,h2,h3,h4,h5,h6⟩:=h
  rw [z1v] at h3 h5
  exact ⟨arr,t,fr,h1,h2,h3,h4,fun i hi=>z7W (h5 i hi) _ (z3h κ _ i).symm,h6⟩
 | map es clock =>
  obtain ⟨ces,h1,h2,h3⟩:=h
  simp only [lAE] at h2 h3
  refine ⟨ces,h1,h2,fun i hi hi'=>?_⟩
  have:=h3 i hi hi'
  simp only [List.getElem_map] at this
  exact ⟨z7W this.1 _ rfl,z7W this.2.1 _ rfl,this.2.2⟩
 | iter m since seen last =>
  obtain ⟨h0,cm,h1,h2⟩:=h
  refine ⟨h0,cm,h1,?_⟩
  rcases h2 with ⟨e1,e2⟩ | ⟨id,b,M,e1,e2,e3,e4⟩
  ·cases m<;>simp at e1;exact .inl ⟨rfl,e2⟩
  ·cases m<;>simp at e1;subst e1;exact .inr ⟨_,b,M,rfl,e2,e3,e4⟩
structure Ren (κ:Nat→Nat) (H H' K:z0B):Prop where
 old:∀ id,id<H.length→κ id=id
 len:H.length≤K.length
 kept:∀ (id:Nat),H[id]? =some Blk.resv→K[id]? =some Blk.resv
 out:∀ id,K.length≤id→H'.length≤κ id
 blk:∀ (id:Nat) b,K[id]? =some b→b=.dead∨H'[κ id]? =some (zRU κ b)
 inj:∀ i j,i<K.length→j<K.length→κ i=κ j→i=j
theorem z7x {κ:Nat→Nat} {b:Blk}:(zRU κ b).live=b.live:=by cases b<;>rfl
theorem zNm {κ:Nat→Nat} (hr:HRel φ σ H w) (s:Step φ σ H w φ' σ' H' w') (r:Ren κ H H' K):Step φ σ H w (fun i=>φ' (κ i)) σ' K w':=by
 have live:∀ (id:Nat) b,K[id]? =some b→b.live=true→H'[κ id]? =some (zRU κ b):=by
  intro id b h hl
  rcases r.blk id b h with e | e
  ·subst e;cases hl
  ·exact e
 refine ⟨?_,s.extS,s.os,s.tape,s.output,s.size,s.frame,?_,?_⟩
 ·intro id L h
  show φ' (κ id)=_
  rw [r.old _ (hr.dom _ _ h)];exact s.extP _ _ h
 ·rintro b ⟨id,blk,L,h1,h2,h3,h4⟩
  exact s.own b ⟨κ id,zRU κ blk,L,live _ _ h1 h2,by rw [z7x];exact h2,h3,h4⟩
 ·refine ⟨?_,fun id L h=>s.hrel.bnd _ L h,?_,?_,s.hrel.sig,?_⟩
  ·intro id L h
   rcases lBB id K.length with h' | h'
   ·exact h'
   ·have:=s.hrel.dom _ _ h
    have:=r.out _ h'
    omega
  ·intro id b h hl
   obtain ⟨L,h1,h2⟩:=s.hrel.blk (κ id) _ (live _ _ h hl) (by rw [z7x];exact hl)
   exact ⟨L,h1,zPy h2⟩
  ·intro id id' b b' L L' h1 h2 h3 h4 h5 h6 h7
   have:=s.hrel.inj (κ id) (κ id') _ _ L L' (live _ _ h1 h2) (by rw [z7x];exact h2) (live _ _ h3 h4) (by rw [z7x];exact h4) h5 h6 h7
   exact r.inj _ _ (lAA.1 h1).1 (lAA.1 h3).1 this
  ·intro id h
   rcases r.blk id _ h with e | e
   ·cases e
   ·exact s.hrel.resv _ e
def mapR (κ:Nat→Nat):ARes→ARes
 | .ret v=>.ret (z6S κ v)
 | .panic v=>.panic (z6S κ v)
theorem z0D.ren {f:FuncId} {args:List AV} {r:ARes} (h:z0D P f args H (fun r' H'=>∃ κ,Ren κ H H' K∧r'=mapR κ r)) :
  z0D P f args H (fun r' H'=>r'=r∧H'=K):=by
 intro φ σ cargs w hr hc
 refine (h φ σ cargs w hr hc).mono ?_
 rintro e w' ⟨φ',σ',r',H',s,kp,rr,κ,rn,rfl⟩
 refine ⟨fun i=>φ' (κ i),σ',r,K,zNm hr s rn,⟨rn.len,rn.kept⟩,?_,rfl,rfl⟩
 cases r with
 | ret v=>obtain ⟨c,rfl,hv⟩:=rr;exact ⟨c,rfl,z7W hv _ rfl⟩
 | panic v=>obtain ⟨c,rfl,hv⟩:=rr;exact ⟨c,rfl,z7W hv _ rfl⟩
end Go.Ab
namespace Go.Ab
variable {P:Program} {H H' K:z0B}
def zNW:List Nat→Nat→Nat
 | [],_=>0
 | x::_,0=>x
 | _::l,n+1=>zNW l n
def kap (n m big:Nat) (js:List Nat) (id:Nat):Nat :=
 bif Nat.blt id n then id else bif Nat.blt id m then zNW js (id-n) else big+id
def zJd (a b:Blk):Bool :=
 match a,b with
 | .dead,.dead=>true
 | .resv,.resv=>true
 | .cells x,.cells y=>z8Z zAL x y
 | .map x c,.map y d=>Nat.beq c d&&sameE x y
 | .iter m s l c,.iter m' s' l' c'=>m==m'&&Nat.beq s s'&&l==l'&&Nat.beq c c'
 | _,_=>false
where sameE:List (AV × AV × Nat)→List (AV × AV × Nat)→Bool
 | [],[]=>true
 | x::xs,y::ys=>zAL x.1 y.1&&zAL x.2.1 y.2.1&&Nat.beq x.2.2 y.2.2&&sameE xs ys
 | _,_=>false
theorem zHS:∀ {x y:List (AV × AV × Nat)},zJd.sameE x y=true→x=y
 | [],[],_=>rfl
 | [],_::_,h=>by cases h
 | _::_,[],h=>by cases h
 | (a,b,c)::xs,(a',b',c')::ys,h=>by
  simp only [zJd.sameE,lAQ] at h
  rw [z4B h.1.1.1,z4B h.1.1.2,lAY h.1.2,zHS h.2]
theorem zHT {a b:Blk} (h:zJd a b=true):a=b:=by
 unfold zJd at h
 split at h
 ·rfl
 ·rfl
 ·rw [z3W (fun x y q=>z4B q) h]
 ·rw [lAQ] at h;rw [lAY h.1,zHS h.2]
 ·simp only [lAQ] at h
  rw [eq_of_beq h.1.1.1,lAY h.1.1.2,eq_of_beq h.1.2,lAY h.2]
 ·cases h
def zTb:Blk→Bool
 | .dead=>true
 | _=>false
def zJE (κ:Nat→Nat) (H':z0B):Nat→List Blk→Bool
 | _,[]=>true
 | i,b::l=>(zTb b||(match H'[κ i]? with | some b'=>zJd b' (zRU κ b) | none=>false))&&zJE κ H' (i+1) l
theorem zBC {κ:Nat→Nat}:∀ {l:List Blk} {i:Nat},zJE κ H' i l=true→∀ (j:Nat) b,l[j]? =some b→b=.dead∨H'[κ (i+j)]? =some (zRU κ b)
 | [],i,_,j,b,h=>by simp at h
 | x::l,i,hk,j,b,h=>by
  simp only [zJE,lAQ,lBX] at hk
  cases j with
  | zero =>
   simp at h;subst h
   rcases hk.1 with e | e
   ·left;cases x<;>first | rfl | cases e
   ·right
    split at e
    ·rename_i b' hb;rw [lDT,hb,zHT e]
    ·cases e
  | succ j =>
   have:=zBC hk.2 j b (by simpa using h)
   rw [show i+(j+1)=i+1+j by omega];exact this
def zEN:List Blk→List Blk→Bool
 | [],_=>true
 | .resv::l,.resv::k=>zEN l k
 | .resv::_,_=>false
 | _::l,_::k=>zEN l k
 | _::_,[]=>false
theorem zAN:∀ {l k:List Blk},zEN l k=true→l.length≤k.length∧∀ i:Nat,l[i]? =some .resv→k[i]? =some .resv
 | [],k,_=>⟨Nat.zero_le _,fun i h=>by simp at h⟩
 | a::l,[],h=>by cases a<;>cases h
 | a::l,b::k,h=>by
  have key:zEN l k=true∧(a=.resv→b=.resv):=by
   cases a<;>cases b<;>first | (cases h;done) | exact ⟨h,fun _=>rfl⟩ | exact ⟨h,fun e=>by cases e⟩
  obtain ⟨h1,h2⟩:=zAN key.1
  refine ⟨by simp;omega,fun i hi=>?_⟩
  cases i with
  | zero=>simp at hi ⊢;exact key.2 hi
  | succ i=>simpa using h2 i (by simpa using hi)
def zHg:List Nat→Bool
 | []=>true
 | x::l=>l.all (fun y=>!Nat.beq x y)&&zHg l
theorem zBy:∀ {l:List Nat},zHg l=true→∀ i j,i<l.length→j<l.length→zNW l i=zNW l j→i=j
 | [],_,i,j,h,_,_=>by simp at h
 | x::l,hn,i,j,hi,hj,e=>by
  simp only [zHg,lAQ] at hn
  have ne:∀ k,k<l.length→x≠zNW l k:=by
   intro k hk hx
   have hm:zNW l k∈l:=by
    clear hn hi hj e hx
    induction l generalizing k with
    | nil=>simp at hk
    | cons y l ih =>
     cases k with
     | zero=>simp [zNW]
     | succ k=>simp only [zNW,lAT];exact .inr (ih k (by simpa using hk))
   have:=lAX.1 hn.1 _ hm
   rw [←hx] at this
   simp at this
  cases i with
  | zero=>cases j with
   | zero=>rfl
   | succ j=>exact absurd e (ne j (by simpa using hj))
  | succ i=>cases j with
   | zero=>exact absurd e.symm (ne i (by simpa using hi))
   | succ j=>rw [zBy hn.2 i j (by simpa using hi) (by simpa using hj) e]
theorem zGM {n:Nat}:∀ {l:List Nat},l.all (fun j=>Nat.ble n j)=true→∀ i,i<l.length→n≤zNW l i
 | [],_,i,h=>by simp at h
 | x::l,ha,i,h=>by
  simp only [lB4,lAQ] at ha
  cases i with
  | zero=>exact lDU ha.1
  | succ i=>exact zGM ha.2 i (by simpa using h)
def zXy (js:List Nat) (H H' K:z0B):Bool :=
 Nat.beq K.length (H.length+js.length)&&zEN H K&&zHg js&&js.all (fun j=>Nat.ble H.length j)&&zJE (kap H.length (H.length+js.length) H'.length js) H' 0 K
theorem zAe {n m big id:Nat} {js:List Nat} (h:id<n):kap n m big js id=id:=by
 unfold kap;rw [show Nat.blt id n=true by rw [lDH];exact h];rfl
theorem zDG {n m big id:Nat} {js:List Nat} (h:n≤id) (h':id<m):kap n m big js id=zNW js (id-n):=by
 unfold kap
 rw [show Nat.blt id n=false by rw [←lCB,lDH];omega,show Nat.blt id m=true by rw [lDH];exact h'];rfl
theorem zRj {n m big id:Nat} {js:List Nat} (h:n≤id) (h':m≤id):kap n m big js id=big+id:=by
 unfold kap
 rw [show Nat.blt id n=false by rw [←lCB,lDH];omega,show Nat.blt id m=false by rw [←lCB,lDH];omega];rfl
theorem zLd {js:List Nat} (h:zXy js H H' K=true):Ren (kap H.length (H.length+js.length) H'.length js) H H' K:=by
 unfold zXy at h
 simp only [lAQ] at h
 obtain ⟨⟨⟨⟨h1,h2⟩,h3⟩,h4⟩,h5⟩:=h
 have hl:=lAY h1
 obtain ⟨r1,r2⟩:=zAN h2
 refine ⟨fun id hid=>zAe hid,r1,r2,fun id hid=>?_,fun id b hb=>?_,fun i j hi hj e=>?_⟩
 ·rw [zRj (by omega) (by omega)];omega
 ·have:=zBC h5 id b hb
  rw [lBN] at this;exact this
 ·rcases lBB i H.length with a | a<;>rcases lBB j H.length with b | b
  ·rw [zAe a,zAe b] at e;exact e
  ·rw [zAe a,zDG b (by omega)] at e
   have:=zGM h4 (j-H.length) (by omega);omega
  ·rw [zDG a (by omega),zAe b] at e
   have:=zGM h4 (i-H.length) (by omega);omega
  ·rw [zDG a (by omega),zDG b (by omega)] at e
   have:=zBy h3 _ _ (by omega) (by omega) e
   omega
def zRL (a b:ARes):Bool :=
 match a,b with
 | .ret x,.ret y=>zAL x y
 | .panic x,.panic y=>zAL x y
 | _,_=>false
theorem zPE {a b:ARes} (h:zRL a b=true):a=b:=by
 unfold zRL at h
 split at h
 ·rw [z4B h]
 ·rw [z4B h]
 ·cases h
def zXG (js:List Nat) (r:ARes) (H K:z0B) (r':ARes) (H':z0B):Bool :=
 zRL r' (mapR (kap H.length (H.length+js.length) H'.length js) r)&&zXy js H H' K
end Go.Ab
