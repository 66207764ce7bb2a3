/- Part 15 of the proof. -/
import Derived.Test.YtgpnlpieipoogaaGreatDoorA14
set_option linter.unusedVariables false
set_option linter.unusedSimpArgs false
namespace Go.Ab
variable {P:Program} {φ φ':Phi} {σ σ':Sig} {H H' K:Heap} {w w':World}
mutual
def mapV (κ:Nat→Nat):AV→AV
 | .ptr id off=>.ptr (κ id) off
 | .sl id off n sz=>.sl (κ id) off n sz
 | .map id=>.map (κ id)
 | .cptr cs=>.cptr (mapVs κ cs)
 | .list sz xs=>.list sz (mapVs κ xs)
 | .clo fn a b=>.clo fn (mapVs κ a) (mapVs κ b)
 | .iface t v=>.iface t (mapV κ v)
 | .agg cs=>.agg (mapVs κ cs)
 | .tuple cs=>.tuple (mapVs κ cs)
 | .top=>.top
 | .bool b=>.bool b
 | .int k n=>.int k n
 | .str s=>.str s
 | .nilptr=>.nilptr
 | .glob g=>.glob g
 | .nilslice=>.nilslice
 | .nilmap=>.nilmap
 | .nilfunc=>.nilfunc
 | .niliface=>.niliface
def mapVs (κ:Nat→Nat):List AV→List AV
 | []=>[]
 | v::vs=>mapV κ v::mapVs κ vs
end
theorem mapVs_map (κ:Nat→Nat):∀ l,mapVs κ l=l.map (mapV κ)
 | []=>by simp [mapVs]
 | v::vs=>by simp [mapVs,mapVs_map κ vs]
theorem mapV_top (κ:Nat→Nat):mapV κ .top=.top:=by simp [mapV]
theorem mapVs_get (κ:Nat→Nat) (l:List AV) (i:Nat):(mapVs κ l).getD i .top=mapV κ (l.getD i .top):=by
 rw [mapVs_map,List.getD_eq_getElem?_getD,List.getD_eq_getElem?_getD,List.getElem?_map]
 cases l[i]? with
 | none=>simp [mapV_top]
 | some v=>simp
theorem mapVs_length (κ:Nat→Nat) (l:List AV):(mapVs κ l).length=l.length:=by simp [mapVs_map]
theorem cells_map (κ:Nat→Nat) (v:AV):(mapV κ v).cells=mapVs κ v.cells:=by
 cases v<;>simp [mapV,AV.cells,mapVs]
theorem flat_map (κ:Nat→Nat):∀ l:List AV,flat (mapVs κ l)=mapVs κ (flat l)
 | []=>by simp [mapVs,flat]
 | v::vs=>by
  have ih:=flat_map κ vs
  simp only [flat,mapVs_map,List.flatMap_cons,List.map_cons,List.map_append] at ih ⊢
  rw [ih,cells_map,mapVs_map]
theorem vrel_map {κ:Nat→Nat} {x:AV} {c:Value} (h:VRel φ' σ' x c):∀ v,mapV κ v=x→VRel (fun i=>φ' (κ i)) σ' v c:=by
 induction h with
 | top v=>intro u hu;cases u<;>simp [mapV] at hu;exact .top _
 | bool b=>intro u hu;cases u<;>simp [mapV] at hu;subst hu;exact .bool _
 | int k n=>intro u hu;cases u<;>simp [mapV] at hu;obtain ⟨rfl,rfl⟩:=hu;exact .int _ _
 | str l s h=>intro u hu;cases u<;>simp [mapV] at hu;subst hu;exact .str _ _ h
 | nilptr=>intro u hu;cases u<;>simp [mapV] at hu;exact .nilptr
 | ptr id off L h=>intro u hu;cases u<;>simp [mapV] at hu;obtain ⟨rfl,rfl⟩:=hu;exact .ptr _ _ L h
 | cptr cs b o f h r ih =>
  intro u hu;cases u<;>simp [mapV] at hu
  subst hu
  exact .cptr _ b o f (fun i hi=>h i (by rw [mapVs_length];exact hi)) fun i=>ih i _ (mapVs_get κ _ i).symm
 | glob g=>intro u hu;cases u<;>simp [mapV] at hu;subst hu;exact .glob _
 | nilslice=>intro u hu;cases u<;>simp [mapV] at hu;exact .nilslice
 | sl id off n sz cap L h hn hc=>intro u hu;cases u<;>simp [mapV] at hu;obtain ⟨rfl,rfl,rfl,rfl⟩:=hu;exact .sl _ _ _ _ cap L h hn hc
 | list sz xs b o n cap f hsz hx hn h r ih =>
  intro u hu;cases u<;>simp [mapV] at hu
  obtain ⟨rfl,rfl⟩:=hu
  rename_i xs
  refine .list _ _ b o n cap f (fun x hxm=>?_) (by rw [mapVs_length] at hx;exact hx) hn (fun i hi=>h i (by rw [flat_map,mapVs_length];exact hi)) fun i=>ih i _ (by rw [flat_map,mapVs_get])
  have:=hsz (mapV κ x) (by rw [mapVs_map];exact List.mem_map_of_mem hxm)
  rw [cells_map,mapVs_length] at this;exact this
 | elist sz a =>
  intro u hu;cases u<;>simp [mapV] at hu
  obtain ⟨rfl,hu⟩:=hu
  rename_i xs
  cases xs with
  | nil=>exact .elist _ a
  | cons x xs=>simp [mapVs_map] at hu
 | nilmap=>intro u hu;cases u<;>simp [mapV] at hu;exact .nilmap
 | map id L h=>intro u hu;cases u<;>simp [mapV] at hu;subst hu;exact .map _ L h
 | nilfunc=>intro u hu;cases u<;>simp [mapV] at hu;exact .nilfunc
 | clo fn fs cs fs' cs' hf hc r1 r2 ih1 ih2 =>
  intro u hu;cases u<;>simp [mapV] at hu
  obtain ⟨rfl,rfl,rfl⟩:=hu
  rw [mapVs_length] at hf hc
  exact .clo _ _ _ fs' cs' hf hc (fun i=>ih1 i _ (mapVs_get κ _ i).symm) fun i=>ih2 i _ (mapVs_get κ _ i).symm
 | niliface=>intro u hu;cases u<;>simp [mapV] at hu;exact .niliface
 | iface t v v' r ih=>intro u hu;cases u<;>simp [mapV] at hu;obtain ⟨rfl,rfl⟩:=hu;exact .iface _ _ _ (ih _ rfl)
 | agg cs cs' h r ih =>
  intro u hu;cases u<;>simp [mapV] at hu
  subst hu
  rw [mapVs_length] at h
  exact .agg _ _ h fun i=>ih i _ (mapVs_get κ _ i).symm
 | tuple cs cs' h r ih =>
  intro u hu;cases u<;>simp [mapV] at hu
  subst hu
  rw [mapVs_length] at h
  exact .tuple _ _ h fun i=>ih i _ (mapVs_get κ _ i).symm
def mapB (κ:Nat→Nat):Blk→Blk
 | .dead=>.dead
 | .resv=>.resv
 | .cells cs=>.cells (mapVs κ cs)
 | .map es clock=>.map (es.map fun e=>(mapV κ e.1,mapV κ e.2.1,e.2.2)) clock
 | .iter m since seen last=>.iter (m.map κ) since seen last
theorem brel_map {κ:Nat→Nat} {L:Loc} {b:Blk} (h:BRel φ' σ' w' L (mapB κ b)):BRel (fun i=>φ' (κ i)) σ' w' L b:=by
 cases b with
 | dead=>trivial
 | resv=>trivial
 | cells cs =>
  obtain ⟨arr,t,fr,h1,h2,h3,h4,h5,h6⟩:=h
  rw [mapVs_length] at h3 h5
  exact ⟨arr,t,fr,h1,h2,h3,h4,fun i hi=>vrel_map (h5 i hi) _ (mapVs_get κ _ i).symm,h6⟩
 | map es clock =>
  obtain ⟨ces,h1,h2,h3⟩:=h
  simp only [List.length_map] at h2 h3
  refine ⟨ces,h1,h2,fun i hi hi'=>?_⟩
  have:=h3 i hi hi'
  simp only [List.getElem_map] at this
  exact ⟨vrel_map this.1 _ rfl,vrel_map this.2.1 _ rfl,this.2.2⟩
 | iter m since seen last =>
  obtain ⟨h0,cm,h1,h2⟩:=h
  refine ⟨h0,cm,h1,?_⟩
  rcases h2 with ⟨e1,e2⟩ | ⟨id,b,M,e1,e2,e3,e4⟩
  ·cases m<;>simp at e1;exact .inl ⟨rfl,e2⟩
  ·cases m<;>simp at e1;subst e1;exact .inr ⟨_,b,M,rfl,e2,e3,e4⟩
structure Ren (κ:Nat→Nat) (H H' K:Heap):Prop where
 old:∀ id,id<H.length→κ id=id
 len:H.length≤K.length
 kept:∀ (id:Nat),H[id]? =some Blk.resv→K[id]? =some Blk.resv
 out:∀ id,K.length≤id→H'.length≤κ id
 blk:∀ (id:Nat) b,K[id]? =some b→b=.dead∨H'[κ id]? =some (mapB κ b)
 inj:∀ i j,i<K.length→j<K.length→κ i=κ j→i=j
theorem mapB_live {κ:Nat→Nat} {b:Blk}:(mapB κ b).live=b.live:=by cases b<;>rfl
theorem step_ren {κ:Nat→Nat} (hr:HRel φ σ H w) (s:Step φ σ H w φ' σ' H' w') (r:Ren κ H H' K):Step φ σ H w (fun i=>φ' (κ i)) σ' K w':=by
 have live:∀ (id:Nat) b,K[id]? =some b→b.live=true→H'[κ id]? =some (mapB κ b):=by
  intro id b h hl
  rcases r.blk id b h with e | e
  ·subst e;cases hl
  ·exact e
 refine ⟨?_,s.extS,s.os,s.tape,s.output,s.size,s.frame,?_,?_⟩
 ·intro id L h
  show φ' (κ id)=_
  rw [r.old _ (hr.dom _ _ h)];exact s.extP _ _ h
 ·rintro b ⟨id,blk,L,h1,h2,h3,h4⟩
  exact s.own b ⟨κ id,mapB κ blk,L,live _ _ h1 h2,by rw [mapB_live];exact h2,h3,h4⟩
 ·refine ⟨?_,fun id L h=>s.hrel.bnd _ L h,?_,?_,s.hrel.sig,?_⟩
  ·intro id L h
   rcases Nat.lt_or_ge id K.length with h' | h'
   ·exact h'
   ·have:=s.hrel.dom _ _ h
    have:=r.out _ h'
    omega
  ·intro id b h hl
   obtain ⟨L,h1,h2⟩:=s.hrel.blk (κ id) _ (live _ _ h hl) (by rw [mapB_live];exact hl)
   exact ⟨L,h1,brel_map h2⟩
  ·intro id id' b b' L L' h1 h2 h3 h4 h5 h6 h7
   have:=s.hrel.inj (κ id) (κ id') _ _ L L' (live _ _ h1 h2) (by rw [mapB_live];exact h2) (live _ _ h3 h4) (by rw [mapB_live];exact h4) h5 h6 h7
   exact r.inj _ _ (List.getElem?_eq_some_iff.1 h1).1 (List.getElem?_eq_some_iff.1 h3).1 this
  ·intro id h
   rcases r.blk id _ h with e | e
   ·cases e
   ·exact s.hrel.resv _ e
def mapR (κ:Nat→Nat):ARes→ARes
 | .ret v=>.ret (mapV κ v)
 | .panic v=>.panic (mapV κ v)
theorem ACall.ren {f:FuncId} {args:List AV} {r:ARes} (h:ACall P f args H (fun r' H'=>∃ κ,Ren κ H H' K∧r'=mapR κ r)) :
  ACall P f args H (fun r' H'=>r'=r∧H'=K):=by
 intro φ σ cargs w hr hc
 refine (h φ σ cargs w hr hc).mono ?_
 rintro e w' ⟨φ',σ',r',H',s,kp,rr,κ,rn,rfl⟩
 refine ⟨fun i=>φ' (κ i),σ',r,K,step_ren hr s rn,⟨rn.len,rn.kept⟩,?_,rfl,rfl⟩
 cases r with
 | ret v=>obtain ⟨c,rfl,hv⟩:=rr;exact ⟨c,rfl,vrel_map hv _ rfl⟩
 | panic v=>obtain ⟨c,rfl,hv⟩:=rr;exact ⟨c,rfl,vrel_map hv _ rfl⟩
end Go.Ab
namespace Go.Ab
variable {P:Program} {H H' K:Heap}
def nthN:List Nat→Nat→Nat
 | [],_=>0
 | x::_,0=>x
 | _::l,n+1=>nthN l n
def kap (n m big:Nat) (js:List Nat) (id:Nat):Nat :=
 bif Nat.blt id n then id else bif Nat.blt id m then nthN js (id-n) else big+id
def sameB (a b:Blk):Bool :=
 match a,b with
 | .dead,.dead=>true
 | .resv,.resv=>true
 | .cells x,.cells y=>sameL sameV x y
 | .map x c,.map y d=>Nat.beq c d&&sameE x y
 | .iter m s l c,.iter m' s' l' c'=>m==m'&&Nat.beq s s'&&l==l'&&Nat.beq c c'
 | _,_=>false
where sameE:List (AV × AV × Nat)→List (AV × AV × Nat)→Bool
 | [],[]=>true
 | x::xs,y::ys=>sameV x.1 y.1&&sameV x.2.1 y.2.1&&Nat.beq x.2.2 y.2.2&&sameE xs ys
 | _,_=>false
theorem sameE_eq:∀ {x y:List (AV × AV × Nat)},sameB.sameE x y=true→x=y
 | [],[],_=>rfl
 | [],_::_,h=>by cases h
 | _::_,[],h=>by cases h
 | (a,b,c)::xs,(a',b',c')::ys,h=>by
  simp only [sameB.sameE,Bool.and_eq_true] at h
  rw [sameV_eq h.1.1.1,sameV_eq h.1.1.2,Nat.eq_of_beq_eq_true h.1.2,sameE_eq h.2]
theorem sameB_eq {a b:Blk} (h:sameB a b=true):a=b:=by
 unfold sameB at h
 split at h
 ·rfl
 ·rfl
 ·rw [sameL_eq (fun x y q=>sameV_eq q) h]
 ·rw [Bool.and_eq_true] at h;rw [Nat.eq_of_beq_eq_true h.1,sameE_eq h.2]
 ·simp only [Bool.and_eq_true] at h
  rw [eq_of_beq h.1.1.1,Nat.eq_of_beq_eq_true h.1.1.2,eq_of_beq h.1.2,Nat.eq_of_beq_eq_true h.2]
 ·cases h
def isDead:Blk→Bool
 | .dead=>true
 | _=>false
def blksOk (κ:Nat→Nat) (H':Heap):Nat→List Blk→Bool
 | _,[]=>true
 | i,b::l=>(isDead b||(match H'[κ i]? with | some b'=>sameB b' (mapB κ b) | none=>false))&&blksOk κ H' (i+1) l
theorem blksOk_spec {κ:Nat→Nat}:∀ {l:List Blk} {i:Nat},blksOk κ H' i l=true→∀ (j:Nat) b,l[j]? =some b→b=.dead∨H'[κ (i+j)]? =some (mapB κ b)
 | [],i,_,j,b,h=>by simp at h
 | x::l,i,hk,j,b,h=>by
  simp only [blksOk,Bool.and_eq_true,Bool.or_eq_true] at hk
  cases j with
  | zero =>
   simp at h;subst h
   rcases hk.1 with e | e
   ·left;cases x<;>first | rfl | cases e
   ·right
    split at e
    ·rename_i b' hb;rw [Nat.add_zero,hb,sameB_eq e]
    ·cases e
  | succ j =>
   have:=blksOk_spec hk.2 j b (by simpa using h)
   rw [show i+(j+1)=i+1+j by omega];exact this
def resvOk:List Blk→List Blk→Bool
 | [],_=>true
 | .resv::l,.resv::k=>resvOk l k
 | .resv::_,_=>false
 | _::l,_::k=>resvOk l k
 | _::_,[]=>false
theorem resvOk_spec:∀ {l k:List Blk},resvOk l k=true→l.length≤k.length∧∀ i:Nat,l[i]? =some .resv→k[i]? =some .resv
 | [],k,_=>⟨Nat.zero_le _,fun i h=>by simp at h⟩
 | a::l,[],h=>by cases a<;>cases h
 | a::l,b::k,h=>by
  have key:resvOk l k=true∧(a=.resv→b=.resv):=by
   cases a<;>cases b<;>first | (cases h;done) | exact ⟨h,fun _=>rfl⟩ | exact ⟨h,fun e=>by cases e⟩
  obtain ⟨h1,h2⟩:=resvOk_spec key.1
  refine ⟨by simp;omega,fun i hi=>?_⟩
  cases i with
  | zero=>simp at hi ⊢;exact key.2 hi
  | succ i=>simpa using h2 i (by simpa using hi)
def nodupN:List Nat→Bool
 | []=>true
 | x::l=>l.all (fun y=>!Nat.beq x y)&&nodupN l
theorem nodupN_inj:∀ {l:List Nat},nodupN l=true→∀ i j,i<l.length→j<l.length→nthN l i=nthN l j→i=j
 | [],_,i,j,h,_,_=>by simp at h
 | x::l,hn,i,j,hi,hj,e=>by
  simp only [nodupN,Bool.and_eq_true] at hn
  have ne:∀ k,k<l.length→x≠nthN l k:=by
   intro k hk hx
   have hm:nthN l k∈l:=by
    clear hn hi hj e hx
    induction l generalizing k with
    | nil=>simp at hk
    | cons y l ih =>
     cases k with
     | zero=>simp [nthN]
     | succ k=>simp only [nthN,List.mem_cons];exact .inr (ih k (by simpa using hk))
   have:=List.all_eq_true.1 hn.1 _ hm
   rw [←hx] at this
   simp at this
  cases i with
  | zero=>cases j with
   | zero=>rfl
   | succ j=>exact absurd e (ne j (by simpa using hj))
  | succ i=>cases j with
   | zero=>exact absurd e.symm (ne i (by simpa using hi))
   | succ j=>rw [nodupN_inj hn.2 i j (by simpa using hi) (by simpa using hj) e]
theorem nthN_ge {n:Nat}:∀ {l:List Nat},l.all (fun j=>Nat.ble n j)=true→∀ i,i<l.length→n≤nthN l i
 | [],_,i,h=>by simp at h
 | x::l,ha,i,h=>by
  simp only [List.all_cons,Bool.and_eq_true] at ha
  cases i with
  | zero=>exact Nat.le_of_ble_eq_true ha.1
  | succ i=>exact nthN_ge ha.2 i (by simpa using h)
def renB (js:List Nat) (H H' K:Heap):Bool :=
 Nat.beq K.length (H.length+js.length)&&resvOk H K&&nodupN js&&js.all (fun j=>Nat.ble H.length j)&&blksOk (kap H.length (H.length+js.length) H'.length js) H' 0 K
theorem kap_old {n m big id:Nat} {js:List Nat} (h:id<n):kap n m big js id=id:=by
 unfold kap;rw [show Nat.blt id n=true by rw [Nat.blt_eq];exact h];rfl
theorem kap_new {n m big id:Nat} {js:List Nat} (h:n≤id) (h':id<m):kap n m big js id=nthN js (id-n):=by
 unfold kap
 rw [show Nat.blt id n=false by rw [←Bool.not_eq_true,Nat.blt_eq];omega,show Nat.blt id m=true by rw [Nat.blt_eq];exact h'];rfl
theorem kap_out {n m big id:Nat} {js:List Nat} (h:n≤id) (h':m≤id):kap n m big js id=big+id:=by
 unfold kap
 rw [show Nat.blt id n=false by rw [←Bool.not_eq_true,Nat.blt_eq];omega,show Nat.blt id m=false by rw [←Bool.not_eq_true,Nat.blt_eq];omega];rfl
theorem renB_spec {js:List Nat} (h:renB js H H' K=true):Ren (kap H.length (H.length+js.length) H'.length js) H H' K:=by
 unfold renB at h
 simp only [Bool.and_eq_true] at h
 obtain ⟨⟨⟨⟨h1,h2⟩,h3⟩,h4⟩,h5⟩:=h
 have hl:=Nat.eq_of_beq_eq_true h1
 obtain ⟨r1,r2⟩:=resvOk_spec h2
 refine ⟨fun id hid=>kap_old hid,r1,r2,fun id hid=>?_,fun id b hb=>?_,fun i j hi hj e=>?_⟩
 ·rw [kap_out (by omega) (by omega)];omega
 ·have:=blksOk_spec h5 id b hb
  rw [Nat.zero_add] at this;exact this
 ·rcases Nat.lt_or_ge i H.length with a | a<;>rcases Nat.lt_or_ge j H.length with b | b
  ·rw [kap_old a,kap_old b] at e;exact e
  ·rw [kap_old a,kap_new b (by omega)] at e
   have:=nthN_ge h4 (j-H.length) (by omega);omega
  ·rw [kap_new a (by omega),kap_old b] at e
   have:=nthN_ge h4 (i-H.length) (by omega);omega
  ·rw [kap_new a (by omega),kap_new b (by omega)] at e
   have:=nodupN_inj h3 _ _ (by omega) (by omega) e
   omega
def sameR (a b:ARes):Bool :=
 match a,b with
 | .ret x,.ret y=>sameV x y
 | .panic x,.panic y=>sameV x y
 | _,_=>false
theorem sameR_eq {a b:ARes} (h:sameR a b=true):a=b:=by
 unfold sameR at h
 split at h
 ·rw [sameV_eq h]
 ·rw [sameV_eq h]
 ·cases h
def endOk (js:List Nat) (r:ARes) (H K:Heap) (r':ARes) (H':Heap):Bool :=
 sameR r' (mapR (kap H.length (H.length+js.length) H'.length js) r)&&renB js H H' K
end Go.Ab
