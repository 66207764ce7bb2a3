/- Part 6 of the proof. -/
import Derived.Test.YtagcckioikbanaaGreatDoorM03
import Derived.Test.YtagcckioikbanaaGreatDoorM05
set_option linter.unusedVariables false
set_option linter.unusedSimpArgs false
namespace Go.Ab
variable {P:Program} {φ:Phi} {σ:Sig} {H:z0B} {w:World}
inductive MOp where
 | load (n:Option Nat)
 | alloc (zs:List AV)
 | box
 | buildSlice (len sz:Nat) (zs:List AV) (places:List (Nat × Nat))
 | makeSlice (sz bytes:Nat) (zs:List AV)
 | store (n:Nat)
 | append (sz bytes:Nat)
inductive IOp where
 | d (op:DOp)
 | m (op:MOp)
 | n (op:NOp)
 | e (op:EOp)
def z6m (m:MOp) (args:List AV) (H:z0B) (r:Nat):Option (AV × z0B) :=
 match m,args with
 | .load n,[x]=>match z0h n x H with
  | some v=>some (v,H)
  | none=>none
 | .alloc zs,_=>some (.ptr r 0,put H r (.cells zs))
 | .box,[v]=>if v.shaped then some (.ptr r 0,put H r (.cells v.cells)) else none
 | .buildSlice len sz zs ps,vs=>match z5M (if len*sz=0 then [] else z1J len zs) ps vs with
  | some out=>some (.sl r 0 len sz,put H r (.cells out))
  | none=>none
 | .makeSlice sz bytes zs,[.int _ l,.int _ c] =>
  if 0≤l∧l≤c∧c≤9223372036854775807∧(bytes:Int)*c≤281474976710656 then some (.sl r 0 l.toNat sz,put H r (.cells (z1J c.toNat zs))) else none
 | .store n,[x,v]=>match zCF n x v H with
  | some H'=>some (.top,H')
  | none=>none
 | .append sz bytes,[s,x]=>z5z sz bytes s x H r
 | _,_=>none
def z5a (i:IOp) (args:List AV) (H:z0B) (r:Nat):Option (AV × z0B) :=
 match i with
 | .d op=>match z1W op args with
  | some v=>some (v,H)
  | none=>none
 | .m op=>z6m op args H r
 | .n op=>z9X op args H r
 | .e op=>zKg op args H r
def cM (P:Program) (o:Oper):Option (MOp × List Operand) :=
 match o.op with
 | .load t x=>match z4k P t with
  | some n=>some (.load n,[x])
  | none=>none
 | .alloc t=>match z5d P t with
  | some zs=>some (.alloc zs,[])
  | none=>none
 | .box _ x=>some (.box,[x])
 | .buildSlice t len parts =>
  match P.underlying t with
  | some (.slice e)=>match z1n P e with
   | some sz =>
    if len*sz≤16777216 then
     if len*sz=0 then some (.buildSlice len sz [] (parts.toList.map fun x=>(x.1*sz,sz)),parts.toList.map (·.2))
     else match z5d P e with
      | some zs=>if zs.length=sz then some (.buildSlice len sz zs (parts.toList.map fun x=>(x.1*sz,sz)),parts.toList.map (·.2)) else none
      | none=>none
    else none
   | none=>none
  | _=>none
 | .makeSlice t l c =>
  match P.underlying t with
  | some (.slice e)=>match P.info? e,z5d P e with
   | some i,some zs=>if zs.length=i.size then some (.makeSlice i.size i.bytes zs,[l,c]) else none
   | _,_=>none
  | _=>none
 | .store t a x=>match z1n P t with
  | some n=>some (.store n,[a,x])
  | none=>none
 | .call { callee:=.builtin .append,args,argTypes } =>
  match args.toList,argTypes.toList with
  | [s,x],[t,xt]=>match P.underlying t,P.underlying xt with
   | some (.slice e),some (.slice _)=>match P.info? e,z5d P e with
    | some i,some zs=>if zs.length=i.size then if i.bytes=0 then none else some (.append i.size i.bytes,[s,x]) else none
    | _,_=>none
   | _,_=>none
  | _,_=>none
 | _=>none
def z1T (n:Nat) (H H':z0B):Prop:=H.length≤H'.length∧∀ id:Nat,id<n→H[id]? =some Blk.resv→H'[id]? =some Blk.resv
theorem z1T.refl (n:Nat) (H:z0B):z1T n H H:=⟨lAL _,fun _ _ h=>h⟩
theorem z1T.trans {n:Nat} {a b c:z0B} (h:z1T n a b) (k:z1T n b c):z1T n a c:=⟨lBM h.1 k.1,fun i l e=>k.2 i l (h.2 i l e)⟩
theorem z3a.n {n:Nat} {a b:z0B} (h:z3a a b):z1T n a b:=⟨h.1,fun i _ e=>h.2 i e⟩
theorem z1T.put {n r:Nat} {b:Blk} (hf:z8t H r) (hn:n≤r):z1T n H (put H r b) :=
 ⟨(z4n hf).1,fun i hi h=>by rw [z8e hf,if_neg (by omega)];exact h⟩
theorem z1T.set {n id:Nat} {b c:Blk} (hg:H[id]? =some c) (hc:c≠.resv):z1T n H (H.set id b):=by
 refine ⟨by simp,fun i _ h=>?_⟩
 rw [lA7]
 by_cases e:id=i
 ·subst e;rw [hg] at h;injection h with h;exact absurd h hc
 ·rw [if_neg e];exact h
def zXj (φ:Phi) (σ:Sig) (H:z0B) (w:World) (n:Nat) (x:Result Next) (v:AV) (H':z0B):Prop :=
 ∃ φ' w' c,(x=.ok (.value c) w'∨(x=.ok .skip w'∧c=undef))∧Step φ σ H w φ' σ H' w'∧z1T n H H'∧VRel φ' σ v c
theorem zPv {n:Nat} {o:Oper} {m:MOp} {xs:List Operand} {ρ:Operand→Value} {vs:List AV} {v:AV} {H':z0B} {r:Nat} (hc:cM P o=some (m,xs))
  (hr:HRel φ σ H w) (hf:z8t H r) (hn:n≤r)
  (hl:vs.length=xs.length) (hv:∀ i,VRel φ σ (vs.getD i .top) ((xs.map ρ).getD i undef)) (hd:z6m m vs H r=some (v,H')) :
  zXj φ σ H w n ((execOp ρ o).run P w) v H':=by
 unfold cM at hc
 split at hc
 ·rename_i t x ho
  split at hc
  ·rename_i k hk
   injection hc with hc;injection hc with h1 h2;subst h1;subst h2
   obtain ⟨u,rfl,hu⟩:=z0b hl hv
   simp only [z6m] at hd
   split at hd
   ·rename_i v' hv'
    injection hd with hd;injection hd with h1 h2;subst h1;subst h2
    obtain ⟨c,e1,e2⟩:=zEK (P:=P) hk hr hu hv'
    exact ⟨φ,w,c,.inl (by simp [execOp,ho,e1]),.refl hr,.refl _ _,e2⟩
   ·cases hd
  ·cases hc
 ·rename_i t ho
  split at hc
  ·rename_i zs hz
   injection hc with hc;injection hc with h1 h2;subst h1;subst h2
   simp only [z6m] at hd
   injection hd with hd;injection hd with h1 h2;subst h1;subst h2
   obtain ⟨c,φ',w',e1,e2,e3⟩:=zNL (P:=P) (old:=.tuple #[]) hr hf hz
   exact ⟨φ',w',c,.inl (by simp [execOp,ho,e1]),e2,.put hf hn,e3⟩
  ·cases hc
 ·rename_i t x ho
  injection hc with hc;injection hc with h1 h2;subst h1;subst h2
  obtain ⟨u,rfl,hu⟩:=z0b hl hv
  simp only [z6m] at hd
  split at hd
  ·rename_i hs
   injection hd with hd;injection hd with h1 h2;subst h1;subst h2
   obtain ⟨c,φ',w',e1,e2,e3⟩:=zST (P:=P) (t:=t) hr hf hs hu
   exact ⟨φ',w',c,.inl (by simp [execOp,ho,e1]),e2,.put hf hn,e3⟩
  ·cases hd
 ·rename_i t len parts ho
  split at hc
  case h_2=>cases hc
  rename_i e hu
  split at hc
  case h_2=>cases hc
  rename_i sz hs
  split at hc
  case isFalse=>cases hc
  rename_i hlim
  have hmap:∀ i,VRel φ σ (vs.getD i .top) (((parts.toList.map fun x=>(x.1,ρ x.2)).map (·.2)).getD i undef)→True:=fun _ _=>trivial
  have ee:(List.map (fun x=>(x.fst,ρ x.snd)) parts.toList).toArray=parts.map fun x=>(x.fst,ρ x.snd):=by rw [←lDP]
  split at hc
  ·rename_i h0
   injection hc with hc;injection hc with h1 h2;subst h1;subst h2
   simp only [z6m] at hd
   split at hd
   ·rename_i out hout
    injection hd with hd;injection hd with h1 h2;subst h1;subst h2
    obtain ⟨c,φ',w',e1,e2,e3⟩:=z6r (P:=P) (zs:=[]) (parts:=parts.toList.map fun x=>(x.1,ρ x.2)) hr hf hu hs (by rw [if_pos h0]) (.inl h0) hlim (by simpa using hl)
     (fun i=>by have:=hv i;rw [lB0] at this ⊢;exact this) (by rw [lB0];exact hout)
    rw [ee] at e1
    exact ⟨φ',w',c,.inl (by simp [execOp,ho,e1]),e2,.put hf hn,e3⟩
   ·cases hd
  ·rename_i h0
   split at hc
   case h_2=>cases hc
   rename_i zs hz
   split at hc
   case isFalse=>cases hc
   rename_i hzl
   injection hc with hc;injection hc with h1 h2;subst h1;subst h2
   simp only [z6m] at hd
   split at hd
   ·rename_i out hout
    injection hd with hd;injection hd with h1 h2;subst h1;subst h2
    obtain ⟨c,φ',w',e1,e2,e3⟩:=z6r (P:=P) (zs:=zs) (parts:=parts.toList.map fun x=>(x.1,ρ x.2)) hr hf hu hs (by rw [if_neg h0];exact hz) (.inr hzl) hlim (by simpa using hl)
     (fun i=>by have:=hv i;rw [lB0] at this ⊢;exact this) (by rw [lB0];exact hout)
    rw [ee] at e1
    exact ⟨φ',w',c,.inl (by simp [execOp,ho,e1]),e2,.put hf hn,e3⟩
   ·cases hd
 ·rename_i t l c ho
  split at hc
  case h_2=>cases hc
  rename_i e hu
  split at hc
  case h_2=>cases hc
  rename_i i zs hi hz
  split at hc
  case isFalse=>cases hc
  rename_i hzl
  injection hc with hc;injection hc with h1 h2;subst h1;subst h2
  obtain ⟨a,b,rfl,ha,hb⟩:=z1C hl hv
  cases a<;>simp only [z6m] at hd<;>try (cases hd;done)
  rename_i k1 n1
  cases b<;>simp only at hd<;>try (cases hd;done)
  rename_i k2 n2
  split at hd
  case isFalse=>cases hd
  rename_i hcond
  injection hd with hd;injection hd with h1 h2;subst h1;subst h2
  generalize hll:ρ l=cl at ha
  generalize hcc:ρ c=cc at hb
  cases ha;cases hb
  obtain ⟨q,φ',w',e1,e2,e3⟩:=zDC (P:=P) (k:=k1) (k':=k2) (sz:=i.size) hr hf hu hi rfl hz hzl hcond.1 hcond.2.1 hcond.2.2.1 (by have:=hcond.2.2.2;omega)
  exact ⟨φ',w',q,.inl (by simp [execOp,ho,hll,hcc,e1]),e2,.put hf hn,e3⟩
 ·rename_i t a x ho
  split at hc
  case h_2=>cases hc
  rename_i k hk
  injection hc with hc;injection hc with h1 h2;subst h1;subst h2
  obtain ⟨u,v',rfl,hu,hv'⟩:=z1C hl hv
  simp only [z6m] at hd
  split at hd
  case h_2=>cases hd
  rename_i H₁ hst
  injection hd with hd;injection hd with h1 h2;subst h1;subst h2
  obtain ⟨w',e1,e2⟩:=zKv (P:=P) hk hr hu hv' hst
  refine ⟨φ,w',undef,.inr ⟨by simp [execOp,ho,e1],rfl⟩,e2,?_,.top _⟩
  unfold zCF at hst
  split at hst
  ·split at hst
   ·rename_i cs hg
    split at hst
    ·injection hst with hst;subst hst;exact .set hg (by simp)
    ·cases hst
   ·cases hst
  ·cases hst
 ·rename_i args argTypes ho
  split at hc
  case h_2=>cases hc
  rename_i s x t xt ha hat
  split at hc
  case h_2=>cases hc
  rename_i e xe hu hxu
  split at hc
  case h_2=>cases hc
  rename_i i zs hi hz
  split at hc
  case isFalse=>cases hc
  rename_i hzl
  split at hc
  case isTrue=>cases hc
  rename_i hb
  injection hc with hc;injection hc with h1 h2;subst h1;subst h2
  have hargs:args = #[s,x]:=by rw [←lBS];exact ha
  have hats:argTypes = #[t,xt]:=by rw [←lBS];exact hat
  subst hargs;subst hats
  obtain ⟨u,v',rfl,hu',hv'⟩:=z1C hl hv
  simp only [z6m] at hd
  obtain ⟨c,φ',w',e1,e2,e3⟩:=zKY (P:=P) (ty:=o.type) (sz:=i.size) hr hf hu hi rfl hz hzl hb hxu rfl hu' hv' hd
  refine ⟨φ',w',c,.inl ?_,e2,?_,e3⟩
  ·simp only [execOp,ho,resolve,invoke,builtin,Sem.run_bind,Sem.run_pure,Result.andThen_ok]
   rw [show (#[s,x]:Array Operand).map ρ = #[ρ s,ρ x] by simp,e1]
   rfl
  ·unfold z5z at hd
   split at hd
   ·split at hd
    ·split at hd
     ·split at hd
      ·injection hd with hd;injection hd with h1 h2;subst h2;exact .refl _ _
      ·injection hd with hd;injection hd with h1 h2;subst h2;exact .put hf hn
     ·rename_i id _ _ _ _
      injection hd with hd;injection hd with h1 h2;subst h2
      obtain ⟨L,hp⟩:∃ L,φ id=some L:=by
       generalize ρ s=q at hu'
       cases hu'
       exact ⟨_,by assumption⟩
      have hid:=hr.dom _ _ hp
      obtain ⟨bq,hbq⟩:∃ bq,H[id]? =some bq:=⟨_,lAG hid⟩
      have hne:bq≠.resv:=by rintro rfl;rw [hr.resv _ hbq] at hp;cases hp
      refine (z1T.set hbq hne).trans (.put ?_ hn)
      have hne2:r≠id:=by rintro rfl;rw [hf.phi hr] at hp;cases hp
      rcases hf with h | h
      ·exact .inl (by simpa using h)
      ·exact .inr (by rw [z1x _ hid,if_neg hne2];exact h)
     ·cases hd
    ·cases hd
   ·cases hd
 ·cases hc
end Go.Ab
namespace Go.Ab
variable {P:Program} {φ:Phi} {σ:Sig} {H:z0B} {w:World}
def cN (P:Program) (o:Oper):Option (NOp × List Operand) :=
 match o.op with
 | .makeMap _ none=>some (.makeMap false,[])
 | .makeMap t (some x)=>match P.underlying t with
  | some (.map _ _)=>some (.makeMap true,[x])
  | _=>none
 | .mapUpdate t m k x=>match P.underlying t with
  | some (.map kt _)=>match z4P P 9 kt with
   | some q=>some (.update q,[m,k,x])
   | none=>none
  | _=>none
 | .insert t m k x=>match P.underlying t with
  | some (.map kt _)=>match z4P P 9 kt with
   | some q=>some (.update q,[m,k,x])
   | none=>none
  | _=>none
 | .lookup t x ix ok=>match P.underlying t with
  | some (.map kt e)=>match z4P P 9 kt,zNa P e with
   | some q,some z=>some (.lookup q z ok,[x,ix])
   | _,_=>none
  | _=>none
 | .range t x=>match P.underlying t with
  | some (.map _ _)=>some (.range,[x])
  | _=>none
 | .entry it=>some (.entry,[it])
 | .call { callee:=.builtin .len,args,argTypes }=>match args.toList,argTypes.toList with
  | [x],[t]=>match P.underlying t with
   | some (.map _ _)=>some (.lenMap,[x])
   | _=>none
  | _,_=>none
 | .call { callee:=.builtin .clear,args,argTypes }=>match args.toList,argTypes.toList with
  | [x],[t]=>match P.underlying t with
   | some (.map _ _)=>some (.clearMap,[x])
   | _=>none
  | _,_=>none
 | .call { callee:=.builtin .delete,args,argTypes }=>match args.toList,argTypes.toList with
  | [m,k],[t,_]=>match P.underlying t with
   | some (.map kt _)=>match z4P P 9 kt with
    | some q=>some (.delete q,[m,k])
    | none=>none
   | _=>none
  | _,_=>none
 | _=>none
theorem z7F {id:Nat} {es:z3t} {clock:Nat} {c:Value} (hr:HRel φ σ H w) (hm:z3j H id=some (es,clock)) (hx:VRel φ σ (.map id) c) :
  ∃ L ces,c=.map (some L.b)∧φ id=some L∧H[id]? =some (.map es clock)∧w.heap[L.b]? =some (.map ces clock)∧z1U φ σ es ces.toList:=by
 unfold z3j at hm
 split at hm
 ·rename_i es' clock' hg
  injection hm with hm;injection hm with h1 h2;subst h1;subst h2
  cases hx with
  | map _ L hp =>
   obtain ⟨M,h1,ces,h2,h3,h4⟩:=hr.blk id _ hg rfl
   rw [hp] at h1;injection h1 with h1;subst h1
   exact ⟨L,ces,rfl,hp,hg,h2,by simpa using h3.symm,fun i hi hi'=>h4 i hi (by simpa using hi')⟩
 ·cases hm
theorem map_set {n id:Nat} {es es':z3t} {clock clock':Nat} {L:Loc} {ces ces':Array MapEntry} (hr:HRel φ σ H w) (hp:φ id=some L) (hg:H[id]? =some (.map es clock))
  (hb:w.heap[L.b]? =some (.map ces clock)) (he:z1U φ σ es' ces'.toList) :
  Step φ σ H w φ σ (H.set id (.map es' clock')) (World.setObj_ w L.b (.map ces' clock'))∧z1T n H (H.set id (.map es' clock')):=by
 have hlt:L.b<w.heap.size:=hr.bnd _ _ hp
 refine ⟨z9P hr hg rfl hp ⟨ces',?_,by have:=he.1;simpa using this.symm,fun i hi hi'=>he.2 i hi (by simpa using hi')⟩ rfl ?_,.set hg (by simp)⟩
 ·rw [z2L,if_pos rfl,if_pos hlt]
 ·intro j v hj
  have:=hr.sig _ _ _ hj
  simp [World.cell?,at_,hb] at this
theorem zPp {es:z3t} {ces:Array MapEntry} {k v:AV} {ck cv:Value} {clock:Nat} (he:z1U φ σ es ces.toList) (hk:VRel φ σ k ck) (hv:VRel φ σ v cv) :
  z1U φ σ (es++[(k,v,clock)]) (ces.push { key:=ck,val:=cv,born:=clock }).toList:=by
 refine ⟨by have:=he.1;simp at this ⊢;omega,fun i hi hi'=>?_⟩
 have hl:=he.1
 simp only [lC7,lAH,lB7,Array.size_push] at hi hi' hl
 by_cases h:i<es.length
 ·have:=he.2 i h (by simp;omega)
  simp only [Array.toList_push,List.getElem_append_left h]
  rw [List.getElem_append_left (by simp;omega)]
  exact this
 ·have e:i=es.length:=by omega
  subst e
  simp only [Array.toList_push]
  rw [List.getElem_append_right (lAL _),List.getElem_append_right (by simp;omega)]
  simp [hl,hk,hv]
theorem zSC {es:z3t} {ces:Array MapEntry} {i:Nat} {k v:AV} {ck cv:Value} (he:z1U φ σ es ces.toList) (hk:VRel φ σ k ck) (hv:VRel φ σ v cv) :
  z1U φ σ (z7f es i k v) (ces.modify i fun e=>{ e with key:=ck,val:=cv }).toList:=by
 have hl:=he.1
 refine ⟨by simp [z7f] at hl ⊢;exact hl,fun j hj hj'=>?_⟩
 simp only [z7f,List.length_modify,Array.toList_modify] at hj hj' ⊢
 simp only [List.getElem_modify]
 have:=he.2 j hj hj'
 split
 ·exact ⟨hk,hv,this.2.2⟩
 ·exact this
theorem zMm {es:z3t} {ces:Array MapEntry} {i:Nat} (he:z1U φ σ es ces.toList) (hi:i<ces.size):z1U φ σ (es.eraseIdx i) (ces.eraseIdxIfInBounds i).toList:=by
 have hl:=he.1
 simp only [lC7] at hl
 have e:(ces.eraseIdxIfInBounds i).toList=ces.toList.eraseIdx i:=by
  unfold Array.eraseIdxIfInBounds
  rw [dif_pos hi];simp
 rw [e]
 refine ⟨by rw [List.length_eraseIdx,List.length_eraseIdx];simp [hl],fun j hj hj'=>?_⟩
 simp only [List.getElem_eraseIdx]
 rw [List.length_eraseIdx] at hj
 split
 ·exact he.2 j _ _
 ·exact he.2 (j+1) _ _
theorem zFJ {z:AV} {cz:Value} (ok:Bool) (hz:VRel φ σ z cz):VRel φ σ (zBN z ok none) (if ok then .tuple #[cz,.bool false] else cz):=by
 cases ok with
 | false=>exact hz
 | true =>
  refine .tuple _ _ rfl fun i=>?_
  match i with
  | 0=>simpa using hz
  | 1=>simpa using VRel.bool _
  | n+2=>simpa using VRel.top _
theorem zKD {z v:AV} {cv:Value} (ok:Bool) (hz:VRel φ σ v cv):VRel φ σ (zBN z ok (some v)) (if ok then .tuple #[cv,.bool true] else cv):=by
 cases ok with
 | false=>exact hz
 | true =>
  refine .tuple _ _ rfl fun i=>?_
  match i with
  | 0=>simpa using hz
  | 1=>simpa using VRel.bool _
  | n+2=>simpa using VRel.top _
theorem zPm {es:z3t} {ces:List MapEntry} (he:z1U φ σ es ces) (s:Nat):∀ {e:AV × AV × Nat},es.find? (fun e=>e.2.2==s)=some e →
  ∃ c,ces.find? (fun c=>c.born==s)=some c∧VRel φ σ e.1 c.key∧VRel φ σ e.2.1 c.val:=by
 induction es generalizing ces with
 | nil=>intro e h;simp at h
 | cons a es ih =>
  intro e h
  cases ces with
  | nil=>have:=he.1;simp at this
  | cons c ces =>
   obtain ⟨⟨h1,h2,h3⟩,ht⟩:=he.tail
   simp only [List.find?_cons] at h ⊢
   rw [←h3]
   cases hq:(a.2.2==s) with
   | true=>rw [hq] at h;injection h with h;subst h;exact ⟨c,rfl,h1,h2⟩
   | false=>rw [hq] at h;exact ih ht h
theorem zDH {id:Nat} {m:Option Nat} {since last:Nat} {seen:List Nat} {c:Value} (hr:HRel φ σ H w) (hm:z8y H id=some (m,since,seen,last)) (hx:VRel φ σ (.ptr id 0) c) :
  ∃ L cm,φ id=some L∧H[id]? =some (.iter m since seen last)∧L.o=0∧w.heap[L.b]? =some (.mapIter cm since seen.toArray last)∧c=.pointer (some ⟨L.b,0,none⟩)∧zGv φ m cm:=by
 unfold z8y at hm
 split at hm
 ·rename_i m' s' se' l' hg
  injection hm with hm;injection hm with h1 hm;injection hm with h2 hm;injection hm with h3 h4
  subst h1;subst h2;subst h3;subst h4
  cases hx with
  | ptr _ _ L hp =>
   obtain ⟨M,h1,h0,cm,h2,h3⟩:=hr.blk id _ hg rfl
   rw [hp] at h1;injection h1 with h1;subst h1
   exact ⟨L,cm,hp,hg,h0,h2,by rw [h0];rfl,h3⟩
 ·cases hm
theorem zEw {id:Nat} {es:z3t} {clock:Nat} {L:Loc} (hr:HRel φ σ H w) (hm:z3j H id=some (es,clock)) (hp:φ id=some L) :
  ∃ ces,H[id]? =some (.map es clock)∧w.heap[L.b]? =some (.map ces clock)∧z1U φ σ es ces.toList:=by
 obtain ⟨M,ces,e1,e2,e3,e4,e5⟩:=z7F hr hm (.map id L hp)
 rw [hp] at e2;injection e2 with e2;subst e2
 exact ⟨ces,e3,e4,e5⟩
end Go.Ab
namespace Go.Ab
variable {P:Program} {φ:Phi} {σ:Sig} {H:z0B} {w:World}
def zHe:Obj→Bool
 | .cells .. => false
 | _=>true
theorem z0e {b:Nat} {o:Obj} (h:w.heap[b]? =some o) (hn:zHe o=true:=by rfl):(getObj b).run P w=.ok o w:=by
 cases o<;>first | (cases hn;done) | simp [getObj,Sem.run,h]
theorem z2M {b:Nat} {o o':Obj} (h:w.heap[b]? =some o) (hn:zHe o=true:=by rfl):(setObj b o').run P w=.ok () (World.setObj_ w b o'):=by
 cases o<;>first | (cases hn;done) | simp [setObj,Sem.run,h,World.setObj_]
theorem z8L {r:Nat} (hr:HRel φ σ H w) (hf:z8t H r) :
  ∃ φ',Step φ σ H w φ' σ (put H r (.map [] 0)) (w.alloc (.map #[] 0))∧φ' r=some ⟨w.heap.size,0,0⟩:=by
 refine ⟨_,z4Z (e:=0) hr hf ⟨#[],?_,rfl,fun i hi=>?_⟩ rfl,by simp [z2B]⟩
 ·exact heap_alloc_new w _
 ·simp at hi
theorem z6t {r:Nat} {m cm:Option Nat} {since last:Nat} (hr:HRel φ σ H w) (hf:z8t H r) (hm:zGv φ m cm) :
  ∃ φ',Step φ σ H w φ' σ (put H r (.iter m since [] last)) (w.alloc (.mapIter cm since #[] last))∧φ' r=some ⟨w.heap.size,0,0⟩:=by
 refine ⟨_,z4Z (e:=0) hr hf ⟨rfl,cm,?_,?_⟩ rfl,by simp [z2B]⟩
 ·exact heap_alloc_new w _
 ·rcases hm with h | ⟨id,b,M,e1,e2,e3,e4⟩
  ·exact .inl h
  ·exact .inr ⟨id,b,M,e1,e2,z4p (hf.phi hr) _ _ e3,e4⟩
theorem zJS {n:Nat} {t kt et:TypeId} {k:KT} {m key v v':AV} {cm ck cv:Value} {H':z0B} {r:Nat} (hu:P.underlying t=some (.map kt et)) (hk:z4P P 9 kt=some k)
  (hr:HRel φ σ H w) (hm:VRel φ σ m cm) (hkey:VRel φ σ key ck) (hv:VRel φ σ v cv) (hd:z9X (.update k) [m,key,v] H r=some (v',H')) :
  ∃ w',(Instr.mapUpdate t cm ck cv).run P w=.ok () w'∧Step φ σ H w φ σ H' w'∧z1T n H H'∧v'=.top:=by
 cases m<;>simp only [z9X] at hd<;>try (cases hd;done)
 rename_i id
 split at hd
 case h_2=>cases hd
 rename_i es clock hma
 split at hd
 case isFalse=>cases hd
 rename_i hok
 obtain ⟨L,ces,rfl,hp,hg,hb,he⟩:=z7F hr hma hm
 have hchk:=z6Y (w:=w) 9 kt k hk false φ σ 10000 (by omega) key ck hkey hok
 split at hd
 ·rename_i i hfi
  injection hd with hd;injection hd with h1 h2;subst h1;subst h2
  rcases z2b (w:=w) hk hkey he hfi with ⟨e1,e2⟩ | ⟨j,hj,e1,e2⟩
  ·cases e1
  ·injection e1 with e1;subst e1
   obtain ⟨s1,s2⟩:=map_set (n:=n) (clock':=clock) hr hp hg hb (zSC (i:=i) he hkey hv)
   refine ⟨_,?_,s1,s2,rfl⟩
   obtain ⟨f1,f2,f3⟩:=zDc hfi
   have hi:i<es.length:=by omega
   have hlt:i<ces.size:=by simpa using hj
   have hst:=zKy (w:=w) (P:=P) hkey (he.2 i hi hj).1 (by simpa using f3 (by simpa using hi))
   simp only [Array.getElem_toList] at hst
   simp only [Instr.mapUpdate,Sem.run_bind,run_underlying hu,Result.andThen_ok,z0e hb,hchk,e2,lBY hlt,lBH,lB1,hst,z2M hb]
 ·rename_i hfi
  injection hd with hd;injection hd with h1 h2;subst h1;subst h2
  rcases z2b (w:=w) hk hkey he hfi with ⟨e1,e2⟩ | ⟨j,hj,e1,e2⟩
  ·obtain ⟨s1,s2⟩:=map_set (n:=n) (clock':=clock+1) hr hp hg hb (zPp (clock:=clock) he hkey hv)
   refine ⟨_,?_,s1,s2,rfl⟩
   simp only [Instr.mapUpdate,Sem.run_bind,run_underlying hu,Result.andThen_ok,z0e hb,hchk,e2,z2M hb]
  ·cases e1
 ·cases hd
theorem zJu {t kt et:TypeId} {k:KT} {z:AV} {ok:Bool} {m key v':AV} {cm ck:Value} {H':z0B} {r:Nat} (hu:P.underlying t=some (.map kt et)) (hk:z4P P 9 kt=some k) (hz:zNa P et=some z)
  (hr:HRel φ σ H w) (hm:VRel φ σ m cm) (hkey:VRel φ σ key ck) (hd:z9X (.lookup k z ok) [m,key] H r=some (v',H')) :
  ∃ c,(Instr.lookup t cm ck ok).run P w=.ok c w∧H'=H∧VRel φ σ v' c:=by
 obtain ⟨cz,z1,z2⟩:=zLV (φ:=φ) (σ:=σ) (w:=w) hz
 cases m<;>simp only [z9X] at hd<;>try (cases hd;done)
 ·split at hd
  case isFalse=>cases hd
  rename_i hok
  injection hd with hd;injection hd with h1 h2;subst h1;subst h2
  cases hm
  have hchk:=z6Y (w:=w) 9 kt k hk true φ σ 10000 (by omega) key ck hkey hok
  have hf:(Instr.findKey kt ck (#[]:Array MapEntry).toList).run P w=.ok none w:=by
   rcases z2b (w:=w) (es:=[]) (ces:=[]) (o:=none) hk hkey ⟨rfl,fun i hi=>by simp at hi⟩ rfl with ⟨_,e2⟩ | ⟨j,hj,_,_⟩
   ·exact e2
   ·simp at hj
  refine ⟨_,?_,rfl,zFJ ok z2⟩
  have he:(#[]:Array MapEntry).isEmpty=true:=rfl
  simp only [Instr.lookup,Sem.run_bind,run_underlying hu,Result.andThen_ok,Sem.run_pure,he,hchk,hf,z1]
 ·rename_i id
  split at hd
  case h_2=>cases hd
  rename_i es clock hma
  split at hd
  case isFalse=>cases hd
  rename_i hok
  obtain ⟨L,ces,rfl,hp,hg,hb,he⟩:=z7F hr hma hm
  have hchk:=z6Y (w:=w) 9 kt k hk ces.isEmpty φ σ 10000 (by omega) key ck hkey hok
  split at hd
  ·rename_i i hfi
   injection hd with hd;injection hd with h1 h2;subst h1;subst h2
   rcases z2b (w:=w) hk hkey he hfi with ⟨e1,e2⟩ | ⟨j,hj,e1,e2⟩
   ·cases e1
   ·injection e1 with e1;subst e1
    obtain ⟨f1,f2,f3⟩:=zDc hfi
    have hi:i<es.length:=by omega
    refine ⟨_,?_,rfl,zKD ok (cv:=ces.toList[i].val) ?_⟩
    ·simp only [Instr.lookup,Sem.run_bind,run_underlying hu,Result.andThen_ok,Sem.run_pure,z0e hb,hchk,e2]
    ·rw [lAB,lAG hi]
     exact (he.2 i hi hj).2.1
  ·rename_i hfi
   injection hd with hd;injection hd with h1 h2;subst h1;subst h2
   rcases z2b (w:=w) hk hkey he hfi with ⟨e1,e2⟩ | ⟨j,hj,e1,e2⟩
   ·refine ⟨_,?_,rfl,zFJ ok z2⟩
    simp only [Instr.lookup,Sem.run_bind,run_underlying hu,Result.andThen_ok,Sem.run_pure,z0e hb,hchk,e2,z1]
   ·cases e1
  ·cases hd
theorem zKL {n:Nat} {t kt et t2 ty:TypeId} {k:KT} {m key v':AV} {cm ck:Value} {H':z0B} {r:Nat} (hu:P.underlying t=some (.map kt et)) (hk:z4P P 9 kt=some k)
  (hr:HRel φ σ H w) (hm:VRel φ σ m cm) (hkey:VRel φ σ key ck) (hd:z9X (.delete k) [m,key] H r=some (v',H')) :
  ∃ w' c,(Builtin.delete_ #[t,t2] ty #[cm,ck]).run P w=.ok c w'∧Step φ σ H w φ σ H' w'∧z1T n H H'∧VRel φ σ v' c:=by
 cases m<;>simp only [z9X] at hd<;>try (cases hd;done)
 ·split at hd
  case isFalse=>cases hd
  rename_i hok
  injection hd with hd;injection hd with h1 h2;subst h1;subst h2
  cases hm
  have hchk:=z6Y (w:=w) 9 kt k hk true φ σ 10000 (by omega) key ck hkey hok
  exact ⟨w,.tuple #[],by simp [Builtin.delete_,run_underlying hu,hchk],.refl hr,.refl _ _,.top _⟩
 ·rename_i id
  split at hd
  case h_2=>cases hd
  rename_i es clock hma
  split at hd
  case isFalse=>cases hd
  rename_i hok
  obtain ⟨L,ces,rfl,hp,hg,hb,he⟩:=z7F hr hma hm
  have hchk:=z6Y (w:=w) 9 kt k hk ces.isEmpty φ σ 10000 (by omega) key ck hkey hok
  split at hd
  ·rename_i i hfi
   injection hd with hd;injection hd with h1 h2;subst h1;subst h2
   rcases z2b (w:=w) hk hkey he hfi with ⟨e1,e2⟩ | ⟨j,hj,e1,e2⟩
   ·cases e1
   ·injection e1 with e1;subst e1
    obtain ⟨s1,s2⟩:=map_set (n:=n) (clock':=clock) hr hp hg hb (zMm (i:=i) he (by simpa using hj))
    exact ⟨_,.tuple #[],by simp [Builtin.delete_,run_underlying hu,z0e hb,hchk,e2,z2M hb],s1,s2,.top _⟩
  ·rename_i hfi
   injection hd with hd;injection hd with h1 h2;subst h1;subst h2
   rcases z2b (w:=w) hk hkey he hfi with ⟨e1,e2⟩ | ⟨j,hj,e1,e2⟩
   ·exact ⟨w,.tuple #[],by simp [Builtin.delete_,run_underlying hu,z0e hb,hchk,e2,z2M hb,zAJ hb],.refl hr,.refl _ _,.top _⟩
   ·cases e1
  ·cases hd
end Go.Ab
namespace Go.Ab
variable {P:Program} {φ:Phi} {σ:Sig} {H:z0B} {w:World}
theorem zPu {n:Nat} {o:Oper} {m:NOp} {xs:List Operand} {ρ:Operand→Value} {vs:List AV} {v:AV} {H':z0B} {r:Nat} (hc:cN P o=some (m,xs))
  (hr:HRel φ σ H w) (hf:z8t H r) (hn:n≤r)
  (hl:vs.length=xs.length) (hv:∀ i,VRel φ σ (vs.getD i .top) ((xs.map ρ).getD i undef)) (hd:z9X m vs H r=some (v,H')) :
  zXj φ σ H w n ((execOp ρ o).run P w) v H':=by
 have upd:∀ {t kt et:TypeId} {q:KT} {a k x:Operand},P.underlying t=some (.map kt et)→z4P P 9 kt=some q→m=.update q→xs=[a,k,x] →
   ((execOp ρ o).run P w=((Instr.mapUpdate t (ρ a) (ρ k) (ρ x)).run P w).andThen fun _ w=>.ok .skip w)→zXj φ σ H w n ((execOp ρ o).run P w) v H':=by
  intro t kt et q a k x hu hk hm hx he
  subst hm;subst hx
  obtain ⟨a',k',x',rfl,h1,h2,h3⟩:=zFW hl hv
  obtain ⟨w',e1,e2,e3,rfl⟩:=zJS (P:=P) (n:=n) hu hk hr h1 h2 h3 hd
  exact ⟨φ,w',undef,.inr ⟨by rw [he,e1];rfl,rfl⟩,e2,e3,.top _⟩
 unfold cN at hc
 split at hc
 ·rename_i t ho
  injection hc with hc;injection hc with h1 h2;subst h1;subst h2
  have:vs=[]:=by simpa using hl
  subst this
  simp only [z9X] at hd
  injection hd with hd;injection hd with h1 h2;subst h1;subst h2
  obtain ⟨φ',s,hp⟩:=z8L (r:=r) hr hf
  exact ⟨φ',_,_,.inl (by simp [execOp,ho,Instr.makeMap];try rfl),s,.put hf hn,.map r _ hp⟩
 ·rename_i t x ho
  split at hc
  case h_2=>cases hc
  rename_i k e hu
  injection hc with hc;injection hc with h1 h2;subst h1;subst h2
  obtain ⟨u,rfl,hx⟩:=z0b hl hv
  cases u<;>simp only [z9X] at hd<;>try (cases hd;done)
  injection hd with hd;injection hd with h1 h2;subst h1;subst h2
  generalize hxx:ρ x=xx at hx
  cases hx
  obtain ⟨φ',s,hp⟩:=z8L (r:=r) hr hf
  exact ⟨φ',_,_,.inl (by simp [execOp,ho,hxx,Instr.makeMap,run_underlying hu,asInt];try rfl),s,.put hf hn,.map r _ hp⟩
 ·rename_i t a k x ho
  split at hc
  case h_2=>cases hc
  rename_i kt et hu
  split at hc
  case h_2=>cases hc
  rename_i q hk
  injection hc with hc;injection hc with h1 h2
  exact upd hu hk h1.symm h2.symm (by simp [execOp,ho])
 ·rename_i t a k x ho
  split at hc
  case h_2=>cases hc
  rename_i kt et hu
  split at hc
  case h_2=>cases hc
  rename_i q hk
  injection hc with hc;injection hc with h1 h2
  exact upd hu hk h1.symm h2.symm (by simp [execOp,ho])
 ·rename_i t x ix ok ho
  split at hc
  case h_2=>cases hc
  rename_i kt et hu
  split at hc
  case h_2=>cases hc
  rename_i q z hk hz
  injection hc with hc;injection hc with h1 h2;subst h1;subst h2
  obtain ⟨a,b,rfl,h1,h2⟩:=z1C hl hv
  obtain ⟨c,e1,rfl,e2⟩:=zJu (P:=P) (w:=w) hu hk hz hr h1 h2 hd
  exact ⟨φ,w,c,.inl (by simp [execOp,ho,e1]),.refl hr,.refl _ _,e2⟩
 ·rename_i t x ho
  split at hc
  case h_2=>cases hc
  rename_i kt et hu
  injection hc with hc;injection hc with h1 h2;subst h1;subst h2
  obtain ⟨u,rfl,hx⟩:=z0b hl hv
  cases u<;>simp only [z9X] at hd<;>try (cases hd;done)
  ·injection hd with hd;injection hd with h1 h2;subst h1;subst h2
   generalize hxx:ρ x=xx at hx
   cases hx
   obtain ⟨φ',s,hp⟩:=z6t (r:=r) (since:=0) (last:=0) hr hf (.inl ⟨rfl,rfl⟩)
   exact ⟨φ',_,_,.inl (by simp [execOp,ho,hxx,Instr.range,run_underlying hu];try rfl),s,.put hf hn,.ptr r 0 _ hp⟩
  ·rename_i id
   split at hd
   case h_2=>cases hd
   rename_i es clock hma
   injection hd with hd;injection hd with h1 h2;subst h1;subst h2
   obtain ⟨L,ces,hxx,hp,hg,hb,he⟩:=z7F hr hma hx
   obtain ⟨φ',s,hp'⟩:=z6t (r:=r) (since:=clock) (last:=clock) hr hf (.inr ⟨id,L.b,L,rfl,rfl,hp,rfl⟩)
   exact ⟨φ',_,_,.inl (by simp [execOp,ho,hxx,Instr.range,run_underlying hu,z0e hb];try rfl),s,.put hf hn,.ptr r 0 _ hp'⟩
 ·rename_i it ho
  injection hc with hc;injection hc with h1 h2;subst h1;subst h2
  obtain ⟨u,rfl,hx⟩:=z0b hl hv
  cases u<;>simp only [z9X] at hd<;>try (cases hd;done)
  rename_i id off
  cases off<;>simp only at hd<;>try (cases hd;done)
  split at hd
  case h_2=>cases hd
  rename_i mid since seen last hit
  split at hd
  case h_2=>cases hd
  rename_i es clock stamp hma hst
  split at hd
  case isFalse=>cases hd
  rename_i hcl
  split at hd
  case h_2=>cases hd
  rename_i e hfe
  injection hd with hd;injection hd with h1 h2;subst h1;subst h2
  obtain ⟨L,cm,hp,hg,h0,hb,hcc,hrel⟩:=zDH hr hit hx
  rcases hrel with ⟨hrel,_⟩ | ⟨id',b,M,e1,e2,e3,e4⟩
  ·cases hrel
  ·injection e1 with e1;subst e1;subst e2;subst e4
   obtain ⟨ces,g1,g2,g3⟩:=zEw hr hma e3
   obtain ⟨c,c1,c2,c3⟩:=zPm g3 stamp hfe
   have c1':ces.find? (fun c=>c.born==stamp)=some c:=by rw [←Array.find?_toList];exact c1
   refine ⟨φ,w,.tuple #[c.key,c.val],.inl ?_,.refl hr,.refl _ _,.tuple _ _ rfl fun i=>?_⟩
   ·subst hcl
    have hbk:seen.toArray.back? =some stamp:=by simpa using hst
    simp only [execOp,ho,Instr.entry,hcc,Sem.run_bind,z0e hb,Result.andThen_ok,hbk,z0e g2,bne_self_eq_false,lAV,if_false,c1',Sem.run_pure]
   ·match i with
    | 0=>simpa using c2
    | 1=>simpa using c3
    | n+2=>simpa using VRel.top _
 ·rename_i args argTypes ho
  split at hc
  case h_2=>cases hc
  rename_i x t ha hat
  split at hc
  case h_2=>cases hc
  rename_i kt et hu
  injection hc with hc;injection hc with h1 h2;subst h1;subst h2
  have hargs:args = #[x]:=by rw [←lBS];exact ha
  have hats:argTypes = #[t]:=by rw [←lBS];exact hat
  subst hargs;subst hats
  obtain ⟨u,rfl,hx⟩:=z0b hl hv
  cases u<;>simp only [z9X] at hd<;>try (cases hd;done)
  ·injection hd with hd;injection hd with h1 h2;subst h1;subst h2
   generalize hxx:ρ x=xx at hx
   cases hx
   exact ⟨φ,w,.int .i64 0,.inl (by simp [execOp,ho,resolve,invoke,builtin,hxx,Builtin.len_,run_underlying hu,goInt]),.refl hr,.refl _ _,.int _ _⟩
  ·rename_i id
   split at hd
   case h_2=>cases hd
   rename_i es clock hma
   injection hd with hd;injection hd with h1 h2;subst h1;subst h2
   obtain ⟨L,ces,hxx,hp,hg,hb,he⟩:=z7F hr hma hx
   have hsz:es.length=ces.size:=by simpa using he.1
   exact ⟨φ,w,.int .i64 es.length,.inl (by simp [execOp,ho,resolve,invoke,builtin,hxx,Builtin.len_,run_underlying hu,goInt,z0e hb,hsz]),.refl hr,.refl _ _,.int _ _⟩
 ·rename_i args argTypes ho
  split at hc
  case h_2=>cases hc
  rename_i x t ha hat
  split at hc
  case h_2=>cases hc
  rename_i kt et hu
  injection hc with hc;injection hc with h1 h2;subst h1;subst h2
  have hargs:args = #[x]:=by rw [←lBS];exact ha
  have hats:argTypes = #[t]:=by rw [←lBS];exact hat
  subst hargs;subst hats
  obtain ⟨u,rfl,hx⟩:=z0b hl hv
  cases u<;>simp only [z9X] at hd<;>try (cases hd;done)
  ·injection hd with hd;injection hd with h1 h2;subst h1;subst h2
   generalize hxx:ρ x=xx at hx
   cases hx
   exact ⟨φ,w,.tuple #[],.inl (by simp [execOp,ho,resolve,invoke,builtin,hxx,Builtin.clear_,run_underlying hu]),.refl hr,.refl _ _,.top _⟩
  ·rename_i id
   split at hd
   case h_2=>cases hd
   rename_i es clock hma
   injection hd with hd;injection hd with h1 h2;subst h1;subst h2
   obtain ⟨L,ces,hxx,hp,hg,hb,he⟩:=z7F hr hma hx
   obtain ⟨s1,s2⟩:=map_set (n:=n) (es':=[]) (ces':=#[]) (clock':=clock) hr hp hg hb ⟨rfl,fun i hi=>by simp at hi⟩
   exact ⟨φ,_,.tuple #[],.inl (by simp [execOp,ho,resolve,invoke,builtin,hxx,Builtin.clear_,run_underlying hu,z0e hb,z2M hb];try rfl),s1,s2,.top _⟩
 ·rename_i args argTypes ho
  split at hc
  case h_2=>cases hc
  rename_i x k t t2 ha hat
  split at hc
  case h_2=>cases hc
  rename_i kt et hu
  split at hc
  case h_2=>cases hc
  rename_i q hk
  injection hc with hc;injection hc with h1 h2;subst h1;subst h2
  have hargs:args = #[x,k]:=by rw [←lBS];exact ha
  have hats:argTypes = #[t,t2]:=by rw [←lBS];exact hat
  subst hargs;subst hats
  obtain ⟨a,b,rfl,h1,h2⟩:=z1C hl hv
  obtain ⟨w',c,e1,e2,e3,e4⟩:=zKL (P:=P) (n:=n) (t2:=t2) (ty:=o.type) hu hk hr h1 h2 hd
  refine ⟨φ,w',c,.inl ?_,e2,e3,e4⟩
  simp only [execOp,ho,resolve,invoke,builtin,Sem.run_bind,Sem.run_pure,Result.andThen_ok]
  rw [show (#[x,k]:Array Operand).map ρ = #[ρ x,ρ k] by simp,e1]
  rfl
 ·cases hc
end Go.Ab
namespace Go.Ab
variable {P:Program} {φ:Phi} {σ:Sig} {H:z0B} {w:World}
theorem z1U.cons {e:AV × AV × Nat} {es:z3t} {c:MapEntry} {ces:List MapEntry} (h:VRel φ σ e.1 c.key∧VRel φ σ e.2.1 c.val∧e.2.2=c.born) (t:z1U φ σ es ces):z1U φ σ (e::es) (c::ces):=by
 refine ⟨by simp [t.1],fun i hi hi'=>?_⟩
 cases i with
 | zero=>exact h
 | succ i=>exact t.2 i (by simpa using hi) (by simpa using hi')
theorem z1U.nil:z1U φ σ [] []:=⟨rfl,fun i hi=>by simp at hi⟩
theorem z4w {p:AV × AV × Nat→Bool} {q:MapEntry→Bool} (hpq:∀ e c,e.2.2=c.born→p e=q c):∀ {es:z3t} {ces:List MapEntry},z1U φ σ es ces→z1U φ σ (es.filter p) (ces.filter q)
 | [],[],_=>.nil
 | [],c::ces,h=>by have:=h.1;simp at this
 | e::es,[],h=>by have:=h.1;simp at this
 | e::es,c::ces,h=>by
  obtain ⟨h1,ht⟩:=h.tail
  have:=hpq e c h1.2.2
  simp only [List.filter_cons,←this]
  cases p e with
  | true=>exact .cons h1 (z4w hpq ht)
  | false=>exact z4w hpq ht
theorem zCH:∀ {es fs:z3t} {ces cfs:List MapEntry},z1U φ σ es ces→z1U φ σ fs cfs→z1U φ σ (es++fs) (ces++cfs)
 | [],fs,[],cfs,_,h=>h
 | [],fs,c::ces,cfs,h,_=>by have:=h.1;simp at this
 | e::es,fs,[],cfs,h,_=>by have:=h.1;simp at this
 | e::es,fs,c::ces,cfs,h,k=>.cons h.tail.1 (zCH h.tail.2 k)
theorem zMn {p:AV × AV × Nat→Bool} {q:MapEntry→Bool} (hpq:∀ e c,e.2.2=c.born→p e=q c):∀ {es:z3t} {ces:List MapEntry},z1U φ σ es ces→es.all p=ces.all q
 | [],[],_=>rfl
 | [],c::ces,h=>by have:=h.1;simp at this
 | e::es,[],h=>by have:=h.1;simp at this
 | e::es,c::ces,h=>by
  simp only [lB4,hpq e c h.tail.1.2.2,zMn hpq h.tail.2]
theorem zAt {es:z3t} {ces:List MapEntry} (h:z1U φ σ es ces):es.isEmpty=ces.isEmpty:=by
 have:=h.1
 cases es<;>cases ces<;>simp_all
theorem zPV {n:Nat} {ty:TypeId} {x:AV} {c:Value} {cands:List (AV × z0B)} (hr:HRel φ σ H w) (hx:VRel φ σ x c) (hd:zGN [x] H=some cands) :
  ∃ v H',(v,H')∈cands∧∃ w' cv,(Instr.next c false ty).run P w=.ok cv w'∧Step φ σ H w φ σ H' w'∧z1T n H H'∧VRel φ σ v cv:=by
 have hover:VRel φ σ (.tuple [.bool false]) (.tuple #[.bool false]):=.tuple _ _ rfl fun i=>by
  match i with
  | 0=>simpa using VRel.bool _
  | n+1=>simpa using VRel.top _
 cases x<;>simp only [zGN] at hd<;>try (cases hd;done)
 rename_i id off
 cases off<;>simp only at hd<;>try (cases hd;done)
 split at hd
 ·rename_i since seen last hit
  injection hd with hd;subst hd
  obtain ⟨L,cm,hp,hg,h0,hb,rfl,hrel⟩:=zDH hr hit hx
  rcases hrel with ⟨_,rfl⟩ | ⟨id',b,M,e1,_⟩
  ·exact ⟨_,_,lA1.2 rfl,w,_,by simp only [Instr.next,Sem.run_bind,z0e hb,Result.andThen_ok,Sem.run_pure],.refl hr,.refl _ _,hover⟩
  ·cases e1
 ·rename_i mid since seen last hit
  obtain ⟨L,cm,hp,hg,h0,hb,rfl,hrel⟩:=zDH hr hit hx
  rcases hrel with ⟨hrel,_⟩ | ⟨id',b,M,e1,e2,e3,e4⟩
  ·cases hrel
  injection e1 with e1;subst e1;subst e2;subst e4
  split at hd
  case h_2=>cases hd
  rename_i es clock hma
  obtain ⟨ces,g1,g2,g3⟩:=zEw hr hma e3
  split at hd
  ·cases hd
  rename_i htest
  simp only [Option.some.injEq] at hd
  subst hd
  have htest':(!seen.toArray.isEmpty && !ces.isEmpty&&ces.all (fun e=>decide (e.born≥last)))=false:=by
   rw [←lCB,←Array.all_toList,←zMn (p:=fun e=>decide (e.2.2≥last)) (fun e c h=>by rw [h]) g3]
   have h1:ces.isEmpty=es.isEmpty:=by rw [zAt g3];simp
   have h2:seen.toArray.isEmpty=seen.isEmpty:=by simp
   rw [h1,h2];exact htest
  have gl:z1U φ σ (es.filter fun e=>!seen.contains e.2.2) (ces.filter fun e=>!seen.toArray.contains e.born).toList:=by
   rw [Array.toList_filter]
   exact z4w (fun e c h=>by rw [h];simp) g3
  generalize (es.filter fun e=>!seen.contains e.2.2)=left at gl ⊢
  generalize hcl:(ces.filter fun e=>!seen.toArray.contains e.born)=cleft at gl
  have go:z1U φ σ (left.filter fun e=>decide (e.2.2<since)) (cleft.filter fun e=>decide (e.born<since)).toList:=by
   rw [Array.toList_filter];exact z4w (fun e c h=>by rw [h]) gl
  have gn:z1U φ σ (left.filter fun e=>decide (e.2.2≥since)) (cleft.filter fun e=>decide (e.born≥since)).toList:=by
   rw [Array.toList_filter];exact z4w (fun e c h=>by rw [h]) gl
  generalize (left.filter fun e=>decide (e.2.2<since))=old at go ⊢
  generalize (left.filter fun e=>decide (e.2.2≥since))=new at gn ⊢
  generalize hco:(cleft.filter fun e=>decide (e.born<since))=cold at go
  generalize hcn:(cleft.filter fun e=>decide (e.born≥since))=cnew at gn
  have hce:cold.isEmpty=old.isEmpty:=by rw [zAt go];simp
  generalize hcand:((if cold.isEmpty=true then #[none] else #[])++Array.map some (cold++cnew):Array (Option MapEntry))=cand
  have hpos:0<cand.size:=by
   rw [←hcand]
   cases he:cold.isEmpty with
   | true=>simp;omega
   | false =>
    have:cold.size≠0:=by intro h;simp [Array.isEmpty,h] at he
    simp;omega
  have hch:∃ (j:Nat) (w1:World),j<cand.size∧(w1=w∨w1=w.drew)∧(choose (Question.mapNext cand.size)).run P w=.ok j w1:=by
   by_cases hf:cand.size≤1
   ·exact ⟨0,w,hpos,.inl rfl,by simp [choose,Sem.run,Question.forced,hf]⟩
   ·exact ⟨_,w.drew,Nat.mod_lt _ hpos,.inr rfl,by
     simp only [choose,Sem.run,Question.forced,lAD,hf,if_false,Question.cut]
     rfl⟩
  obtain ⟨j,w1,hj,hw1,hrun⟩:=hch
  have hs1:Step φ σ H w φ σ H w1:=by
   rcases hw1 with rfl | rfl
   ·exact .refl hr
   ·exact z5g hr
  have hb1:w1.heap[L.b]? =some (.mapIter (some M.b) since seen.toArray last):=by rcases hw1 with rfl | rfl<;>exact hb
  have hrun':(Instr.next (.pointer (some ⟨L.b,0,none⟩)) false ty).run P w=match cand[j]? with
    | some (some e)=>.ok (.tuple #[.bool true,e.key,e.val]) (World.setObj_ w1 L.b (.mapIter (some M.b) since (seen.toArray.push e.born) clock))
    | some none=>.ok (.tuple #[.bool false]) w1
    | none=>.halt (.stuck "Next: no such candidate") w1:=by
   simp only [Instr.next,Sem.run_bind,z0e hb,z0e g2,Result.andThen_ok,htest',lAV,if_false,hcl,hco,hcn,hcand,hrun]
   cases hq:cand[j]? with
   | none=>rfl
   | some o =>
    cases o with
    | none=>rfl
    | some e=>simp only [Sem.run_bind,z2M hb1,Result.andThen_ok,Sem.run_pure]
  have hcl':cand.toList=(if old.isEmpty then [none] else [])++(cold.toList++cnew.toList).map some:=by
   rw [←hcand,hce];cases old.isEmpty<;>simp
  have hget:cand[j]? =cand.toList[j]?:=by simp
  have take:∀ (e:AV × AV × Nat) (ce:MapEntry),e∈old++new→cand[j]? =some (some ce)→VRel φ σ e.1 ce.key∧VRel φ σ e.2.1 ce.val∧e.2.2=ce.born →
    ∃ v H',(v,H')∈((if old.isEmpty then [(AV.tuple [.bool false],H)] else [])++(old++new).map fun e=>(AV.tuple [.bool true,e.1,e.2.1],H.set id (.iter (some mid) since (seen++[e.2.2]) clock))) ∧
     ∃ w' cv,(Instr.next (.pointer (some ⟨L.b,0,none⟩)) false ty).run P w=.ok cv w'∧Step φ σ H w φ σ H' w'∧z1T n H H'∧VRel φ σ v cv:=by
   intro e ce hm hc hrel
   refine ⟨_,_,lCQ _ (lDM hm),_,_,by rw [hrun',hc],hs1.trans (z9P hs1.hrel hg rfl hp ⟨h0,some M.b,?_,?_⟩ rfl ?_),.set hg (by simp),?_⟩
   ·rw [z2L,if_pos rfl,if_pos (hs1.hrel.bnd _ _ hp),hrel.2.2];simp
   ·exact .inr ⟨mid,M.b,M,rfl,rfl,e3,rfl⟩
   ·intro k v hk
    have:=hs1.hrel.sig _ _ _ hk
    simp [World.cell?,at_,hb1] at this
   ·refine .tuple _ _ rfl fun i=>?_
    match i with
    | 0=>simpa using VRel.bool _
    | 1=>simpa using hrel.1
    | 2=>simpa using hrel.2.1
    | n+3=>simpa using VRel.top _
  have ga:=zCH go gn
  have hlen:cand.toList.length=cand.size:=by simp
  cases hoe:old.isEmpty with
  | true =>
   rw [hoe] at hcl' take
   cases j with
   | zero =>
    refine ⟨_,_,by simp only [if_true];exact lCV _ (lA1.2 rfl),w1,_,by rw [hrun',hget,hcl'];simp,hs1,.refl _ _,hover⟩
   | succ j =>
    rw [hcl'] at hlen
    simp at hlen
    have hj':j<(cold.toList++cnew.toList).length:=by simp;omega
    have hj2:j<(old++new).length:=by rw [ga.1];exact hj'
    refine take (old++new)[j] (cold.toList++cnew.toList)[j] (lBT _) ?_ (ga.2 j hj2 hj')
    rw [hget,hcl']
    simp only [if_true,List.singleton_append,lBD,lAM,lAG hj',lBH]
  | false =>
   rw [hoe] at hcl' take
   rw [hcl'] at hlen
   simp at hlen
   have hj':j<(cold.toList++cnew.toList).length:=by simp;omega
   have hj2:j<(old++new).length:=by rw [ga.1];exact hj'
   refine take (old++new)[j] (cold.toList++cnew.toList)[j] (lBT _) ?_ (ga.2 j hj2 hj')
   rw [hget,hcl']
   simp only [lAV,if_false,lC0,lAM,lAG hj',lBH]
 ·cases hd
theorem zPw {n:Nat} {o:Oper} {m:EOp} {xs:List Operand} {ρ:Operand→Value} {vs:List AV} {v:AV} {H':z0B} {r:Nat} (hc:cE P o=some (m,xs))
  (hr:HRel φ σ H w) (hf:z8t H r) (hn:n≤r)
  (hl:vs.length=xs.length) (hv:∀ i,VRel φ σ (vs.getD i .top) ((xs.map ρ).getD i undef)) (hd:zKg m vs H r=some (v,H')) :
  zXj φ σ H w n ((execOp ρ o).run P w) v H':=by
 unfold cE at hc
 split at hc
 ·rename_i s d x ho
  split at hc
  ·rename_i e hs hdd
   split at hc
   case h_2=>cases hc
   rename_i he
   injection hc with hc;injection hc with h1 h2;subst h1;subst h2
   obtain ⟨u,rfl,hx⟩:=z0b hl hv
   cases u<;>simp only [zKg] at hd<;>try (cases hd;done)
   injection hd with hd;injection hd with h1 h2;subst h1;subst h2
   obtain ⟨φ',w',c,e1,e2,e3⟩:=zRM (P:=P) hr hf hs hdd he hx
   exact ⟨φ',w',c,.inl (by simp [execOp,ho,e1]),e2,.put hf hn,e3⟩
  ·rename_i e hs hdd
   split at hc
   case h_2=>cases hc
   rename_i he
   injection hc with hc;injection hc with h1 h2;subst h1;subst h2
   obtain ⟨u,rfl,hx⟩:=z0b hl hv
   simp only [zKg] at hd
   split at hd
   case h_2=>cases hd
   rename_i k ys hy
   split at hd
   case h_2=>cases hd
   rename_i l hll
   injection hd with hd;injection hd with h1 h2;subst h1;subst h2
   obtain ⟨c,e1,e2⟩:=zSb (P:=P) hr hs he hdd hx hy hll
   exact ⟨φ,w,c,.inl (by simp [execOp,ho,e1]),.refl hr,.refl _ _,e2⟩
  ·cases hc
 ·rename_i args argTypes ho
  split at hc
  case h_2=>cases hc
  rename_i x t ha hat
  split at hc
  case h_2=>cases hc
  rename_i e hu
  split at hc
  case h_2=>cases hc
  rename_i sz zs hs hz
  split at hc
  case isFalse=>cases hc
  rename_i hzl
  injection hc with hc;injection hc with h1 h2;subst h1;subst h2
  have hargs:args = #[x]:=by rw [←lBS];exact ha
  have hats:argTypes = #[t]:=by rw [←lBS];exact hat
  subst hargs;subst hats
  obtain ⟨u,rfl,hx⟩:=z0b hl hv
  obtain ⟨w',e1,e2,rfl⟩:=zMt (P:=P) (ty:=o.type) hr hu hz hzl hx hd
  refine ⟨φ,w',.tuple #[],.inl ?_,e2,?_,.top _⟩
  ·simp only [execOp,ho,resolve,invoke,builtin,Sem.run_bind,Sem.run_pure,Result.andThen_ok]
   rw [show (#[x]:Array Operand).map ρ = #[ρ x] by simp,e1]
   rfl
  ·simp only [zKg] at hd
   split at hd
   ·injection hd with hd;injection hd with h1 h2;subst h2;exact .refl _ _
   ·injection hd with hd;injection hd with h1 h2;subst h2;exact .refl _ _
   ·split at hd
    ·split at hd
     ·rename_i hg
      split at hd
      ·injection hd with hd;injection hd with h1 h2;subst h2;exact .set hg (by simp)
      ·cases hd
     ·cases hd
    ·cases hd
   ·cases hd
 ·rename_i args argTypes ho
  split at hc
  case h_2=>cases hc
  rename_i s x t xt ha hat
  split at hc
  case h_2=>cases hc
  rename_i e kx hu hxu
  split at hc
  case h_2=>cases hc
  rename_i i zs hi hz
  split at hc
  case isFalse=>cases hc
  rename_i hzl
  injection hc with hc;injection hc with h1 h2;subst h1;subst h2
  have hargs:args = #[s,x]:=by rw [←lBS];exact ha
  have hats:argTypes = #[t,xt]:=by rw [←lBS];exact hat
  subst hargs;subst hats
  obtain ⟨a,b,rfl,ha',hb'⟩:=z1C hl hv
  cases a<;>simp only [zKg] at hd<;>try (cases hd;done)
  cases b<;>simp only at hd<;>try (cases hd;done)
  rename_i k' m
  split at hd
  case isFalse=>cases hd
  rename_i hcond
  injection hd with hd;injection hd with h1 h2;subst h1;subst h2
  generalize hss:ρ s=cs at ha'
  generalize hxx:ρ x=cx at hb'
  cases ha';cases hb'
  obtain ⟨c,φ',w',e1,e2,e3⟩:=zGq (P:=P) (ty:=o.type) (k':=k') hr hf hu hi rfl hz hzl.1 hzl.2 hxu hcond.1 hcond.2.1 hcond.2.2
  refine ⟨φ',w',c,.inl ?_,e2,.put hf hn,e3⟩
  simp only [execOp,ho,resolve,invoke,builtin,Sem.run_bind,Sem.run_pure,Result.andThen_ok]
  rw [show (#[s,x]:Array Operand).map ρ = #[.slice none 0 0,.int k' m] by simp [hss,hxx],e1]
  rfl
 ·rename_i args argTypes ho
  split at hc
  case h_2=>cases hc
  rename_i x t ha hat
  split at hc
  case h_2=>cases hc
  rename_i e hu
  injection hc with hc;injection hc with h1 h2;subst h1;subst h2
  have hargs:args = #[x]:=by rw [←lBS];exact ha
  have hats:argTypes = #[t]:=by rw [←lBS];exact hat
  subst hargs;subst hats
  obtain ⟨u,rfl,hx⟩:=z0b hl hv
  cases u<;>simp only [zKg] at hd<;>try (cases hd;done)
  injection hd with hd;injection hd with h1 h2;subst h1;subst h2
  generalize hxx:ρ x=xx at hx
  cases hx
  exact ⟨φ,w,.int .i64 0,.inl (by simp [execOp,ho,resolve,invoke,builtin,hxx,Builtin.cap_,run_underlying hu,goInt]),.refl hr,.refl _ _,.int _ _⟩
 ·cases hc
end Go.Ab
