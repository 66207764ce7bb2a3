/- Part 2 of the proof. -/
import Derived.Laws.Strings
import Derived.Laws.StructEq
import Derived.Laws.Cells
import Derived.WideLaws
import Derived.Test.YtagcckioikbanaaGreatDoorM01
set_option linter.unusedVariables false
set_option linter.unusedSimpArgs false
namespace Go.Ab
variable {P:Program} {φ:Phi} {σ:Sig} {w:World}
def z1n (P:Program) (t:TypeId):Option Nat:=(P.info? t).map (·.size)
def z4k (P:Program) (t:TypeId):Option (Option Nat) :=
 match P.underlying t,P.info? t with
 | some (.struct _),some i=>some (some i.size)
 | some (.array _ _),some i=>some (some i.size)
 | some _,some _=>some none
 | _,_=>none
theorem z0C {t:TypeId} {d:TypeDesc} (h:P.underlying t=some d):(underlying t).run P w=.ok d w:=run_underlying h w
theorem z1P {t:TypeId} {n:Nat} (h:z1n P t=some n):(sizeOf t).run P w=.ok n w:=by
 unfold z1n at h
 cases hi:P.info? t with
 | none=>simp [hi] at h
 | some i=>simp [hi] at h;simp [sizeOf,typeInfo,hi,h]
theorem z8a {t:TypeId} {n:Option Nat} (h:z4k P t=some n):(isAgg t).run P w=.ok n.isSome w∧∀ k,n=some k→z1n P t=some k:=by
 unfold z4k at h
 split at h
 ·rename_i hu hi
  injection h with h;subst h
  exact ⟨by simp [isAgg,underlying,hu],fun k hk=>by injection hk with hk;simp [z1n,hi,hk]⟩
 ·rename_i hu hi
  injection h with h;subst h
  exact ⟨by simp [isAgg,underlying,hu],fun k hk=>by injection hk with hk;simp [z1n,hi,hk]⟩
 ·rename_i d i h1 h2 hu hi
  injection h with h;subst h
  refine ⟨?_,fun k hk=>by cases hk⟩
  simp only [isAgg,Sem.run_bind,z0C hu,Result.andThen_ok]
  rfl
 ·cases h
theorem z1z (cs:List AV) (off k i:Nat) :
  (((cs.drop off).take k).getD i .top)=if i<k then cs.getD (off+i) .top else .top:=by
 simp only [lAB,lD6,lDA]
 split<;>simp
theorem z7p {t:TypeId} {n:Option Nat} {cs:List AV} {vs:Array Value} {off:Nat} {v:AV} (ht:z4k P t=some n)
  (hd:z3L n cs off=some v) (hl:cs.length=vs.size) (hr:∀ i,VRel φ σ (cs.getD i .top) (vs.getD i undef)) :
  ∃ c,(part t vs off).run P w=.ok c w∧VRel φ σ v c:=by
 obtain ⟨h1,h2⟩:=z8a (w:=w) ht
 cases n with
 | none =>
  simp only [z3L] at hd
  have hlt:off<cs.length:=by
   rcases lBB off cs.length with h | h
   ·exact h
   ·simp [h] at hd
  have:=hr off
  rw [lAB,hd] at this
  refine ⟨vs.getD off undef,?_,this⟩
  have hlt':off<vs.size:=hl ▸ hlt
  simp [part,h1,Array.getD,hlt']
 | some k =>
  simp only [z3L] at hd
  split at hd
  ·rename_i hle
   injection hd with hd;subst hd
   have h3:=z1P (w:=w) (h2 k rfl)
   refine ⟨.agg (vs.extract off (off+k)),by simp [part,h1,h3],?_⟩
   refine .agg _ _ (by simp;omega) fun i=>?_
   rw [z1z]
   split
   ·rename_i hi
    have:=hr (off+i)
    rw [show (vs.extract off (off+k)).getD i undef=vs.getD (off+i) undef by
     simp only [lAR,Array.getElem?_extract]
     rw [if_pos (by omega)]]
    exact this
   ·exact .top _
  ·cases hd
theorem zMe {s:TypeId} {fields:Array Field} {j:Nat} {f:Field} {n:Option Nat} {cs:List AV} {c:Value} {v:AV}
  (hu:P.underlying s=some (.struct fields)) (hf:fields[j]? =some f) (ht:z4k P f.type=some n)
  (hd:z3L n cs f.offset=some v) (hr:VRel φ σ (.agg cs) c):∃ c',(Instr.field s c j).run P w=.ok c' w∧VRel φ σ v c':=by
 cases hr with
 | agg _ vs hl hr =>
  obtain ⟨c',h,h'⟩:=z7p (w:=w) ht hd hl hr
  exact ⟨c',by simp [Instr.field,z0C hu,hf,asAgg,h],h'⟩
theorem zFH (cs:List AV) (off i:Nat):(cs.drop off).getD i .top=cs.getD (off+i) .top:=by
 simp [lAB]
theorem z4z (b o n:Nat):(at_ b o).add n=at_ b (o+n):=by
 unfold at_ Addr.add
 split<;>simp_all
theorem zDQ {s:TypeId} {fields:Array Field} {j:Nat} {f:Field} {z:Nat} {x v:AV} {c:Value}
  (hu:P.underlying s=some (.struct fields)) (hf:fields[j]? =some f) (hz:z1n P f.type=some z) (hz0:z≠0)
  (hd:z1W (.fieldAddr f.offset) [x]=some v) (hr:VRel φ σ x c):∃ c',(Instr.fieldAt s c j).run P w=.ok c' w∧VRel φ σ v c':=by
 have h3:=z1P (w:=w) hz
 simp only [z1W] at hd
 split at hd
 ·rename_i id o
  injection hd with hd;subst hd
  cases hr with
  | ptr _ _ L h =>
   refine ⟨.pointer (some (at_ L.b (L.o+(o+f.offset)))),?_,.ptr _ _ L h⟩
   simp [Instr.fieldAt,z0C hu,hf,Instr.sureAddr,fieldPlace,h3,hz0,z4z,lBK]
 ·rename_i cs
  injection hd with hd;subst hd
  cases hr with
  | cptr _ b o g h r =>
   refine ⟨.pointer (some (at_ b (o+f.offset))),?_,.cptr _ _ _ (fun i=>g (f.offset+i)) (fun i hi=>?_) (fun i=>?_)⟩
   ·simp [Instr.fieldAt,z0C hu,hf,Instr.sureAddr,fieldPlace,h3,hz0,z4z]
   ·have:=h (f.offset+i) (by simp at hi;omega)
    rw [←lBK] at this;exact this
   ·rw [zFH];exact r _
 ·cases hd
theorem z9b {sz:Nat}:∀ (xs:List AV) (i j:Nat),(∀ x∈xs,x.cells.length=sz)→i<xs.length→j<sz →
  (z0j xs)[i*sz+j]? =(xs.getD i .top).cells[j]?∧i*sz+j<(z0j xs).length
 | [],i,j,_,hi,_=>by simp at hi
 | x::xs,0,j,h,_,hj=>by
  have hx:=h x (by simp)
  simp only [z0j,lBU,Nat.zero_mul,lBN,lAH]
  refine ⟨?_,by omega⟩
  rw [lAN (by omega)]
  simp
 | x::xs,i+1,j,h,hi,hj=>by
  have hx:=h x (by simp)
  obtain ⟨h1,h2⟩:=z9b (sz:=sz) xs i j (fun y hy=>h y (by simp [hy])) (by simpa using hi) hj
  have e:(i+1)*sz+j=sz+(i*sz+j):=by rw [lCH];omega
  simp only [z0j,lBU,lAH] at h1 h2 ⊢
  refine ⟨?_,by omega⟩
  rw [lAJ (by omega),hx,e,lC4,h1]
  simp
theorem z2z {sz:Nat}:∀ (xs:List AV),(∀ x∈xs,x.cells.length=sz)→(z0j xs).length=xs.length*sz
 | [],_=>by simp [z0j]
 | x::xs,h=>by
  have hx:=h x (by simp)
  have:=z2z (sz:=sz) xs (fun y hy=>h y (by simp [hy]))
  simp only [z0j,lBU,lAH,lBE] at this ⊢
  rw [this,hx,lCH];omega
theorem zPY {xs:List AV} {i:Nat} (h:i<xs.length):xs.getD i .top∈xs:=by
 rw [lAB,lAG h]
 simp
theorem zGY {t e:TypeId} {sz:Nat} {x i v:AV} {c ci:Value} (hu:P.underlying t=some (.slice e)) (hs:z1n P e=some sz)
  (hd:z1W (.idxAddr sz) [x,i]=some v) (hr:VRel φ σ x c) (hi:VRel φ σ i ci):∃ c',(Instr.indexAt t c ci).run P w=.ok c' w∧VRel φ σ v c':=by
 have h3:=z1P (w:=w) hs
 cases i<;>simp only [z1W] at hd<;>try (cases hd;done)
 rename_i k n
 cases hi
 split at hd
 ·rename_i id off len sz'
  split at hd
  ·rename_i hc
   obtain ⟨rfl,h0,h1⟩:=hc
   injection hd with hd;subst hd
   cases hr with
   | sl _ _ _ _ cap L h hn hcap =>
    refine ⟨.pointer (some (at_ L.b (L.o+(off+n.toNat*sz)))),?_,.ptr _ _ L h⟩
    simp [Instr.indexAt,asIntOf,z0C hu,h0,h1,h3,z4z,lBK]
  ·cases hd
 ·rename_i sz' xs
  split at hd
  ·rename_i hc
   obtain ⟨rfl,h0,h1⟩:=hc
   injection hd with hd;subst hd
   cases hr with
   | list _ _ b o m cap g hsz hx hn h r =>
    have hlt:n.toNat<xs.length:=by omega
    have hcl:=hsz _ (zPY hlt)
    refine ⟨.pointer (some (at_ b (o+n.toNat*sz))),?_,.cptr _ _ _ (fun j=>if j<sz then g (n.toNat*sz+j) else undef) (fun j hj=>?_) (fun j=>?_)⟩
    ·have h1':n<(m:Int):=by omega
     simp [Instr.indexAt,asIntOf,z0C hu,h0,h1',h3,z4z]
    ·rw [hcl] at hj
     have:=(z9b xs n.toNat j hsz hlt hj).2
     rw [if_pos hj,lBK]
     exact h _ this
    ·by_cases hj:j<sz
     ·rw [if_pos hj]
      have:=(z9b xs n.toNat j hsz hlt hj).1
      rw [lAB,←this,←lAB]
      exact r _
     ·rw [if_neg hj,lAB,lBG (by omega)]
      exact .top _
   | elist _ a=>simp at h1;omega
  ·cases hd
 ·cases hd
theorem zBM {t e:TypeId} {len sz:Nat} {x i v:AV} {c ci:Value} (hu:P.underlying t=some (.array len e)) (hs:z1n P e=some sz)
  (hd:z1W (.idxAddrArr len sz) [x,i]=some v) (hr:VRel φ σ x c) (hi:VRel φ σ i ci):∃ c',(Instr.indexAt t c ci).run P w=.ok c' w∧VRel φ σ v c':=by
 have h3:=z1P (w:=w) hs
 cases i<;>simp only [z1W] at hd<;>try (cases hd;done)
 rename_i k n
 cases hi
 split at hd
 ·rename_i hc
  obtain ⟨h0,h1⟩:=hc
  split at hd
  ·rename_i id off
   injection hd with hd;subst hd
   cases hr with
   | ptr _ _ L h =>
    refine ⟨.pointer (some (at_ L.b (L.o+(off+n.toNat*sz)))),?_,.ptr _ _ L h⟩
    simp [Instr.indexAt,asIntOf,z0C hu,Instr.sureAddr,h0,h1,h3,z4z,lBK]
  ·rename_i cs
   injection hd with hd;subst hd
   cases hr with
   | cptr _ b o g h r =>
    refine ⟨.pointer (some (at_ b (o+n.toNat*sz))),?_,.cptr _ _ _ (fun i=>g (n.toNat*sz+i)) (fun i hi=>?_) (fun i=>?_)⟩
    ·simp [Instr.indexAt,asIntOf,z0C hu,Instr.sureAddr,h0,h1,h3,z4z]
    ·have:=h (n.toNat*sz+i) (by simp at hi;omega)
     rw [←lBK] at this;exact this
    ·rw [zFH];exact r _
  ·cases hd
 ·cases hd
theorem zCB {t e:TypeId} {len sz:Nat} {g:Bool} {x i v:AV} {c ci:Value} (hu:P.underlying t=some (.array len e)) (hs:z1n P e=some sz)
  (hsh:z4k P e=some (if g then some sz else none))
  (hd:z1W (.idxArr len sz g) [x,i]=some v) (hr:VRel φ σ x c) (hi:VRel φ σ i ci):∃ c',(Instr.index t c ci).run P w=.ok c' w∧VRel φ σ v c':=by
 have h3:=z1P (w:=w) hs
 cases x<;>simp only [z1W] at hd<;>try (cases hd;done)
 rename_i cs
 cases i<;>simp only at hd<;>try (cases hd;done)
 rename_i k n
 cases hi
 split at hd
 ·rename_i hc
  obtain ⟨h0,h1⟩:=hc
  cases hr with
  | agg _ vs hl hr =>
   obtain ⟨c',h,h'⟩:=z7p (w:=w) hsh hd hl hr
   exact ⟨c',by simp [Instr.index,asIntOf,z0C hu,h0,h1,h3,h],h'⟩
 ·cases hd
theorem zJz {t:TypeId} {x i v:AV} {c ci:Value} (hu:P.underlying t=some .string)
  (hd:z1W .idxStr [x,i]=some v) (hr:VRel φ σ x c) (hi:VRel φ σ i ci):∃ c',(Instr.index t c ci).run P w=.ok c' w∧VRel φ σ v c':=by
 cases x<;>simp only [z1W] at hd<;>try (cases hd;done)
 rename_i s
 cases i<;>simp only at hd<;>try (cases hd;done)
 rename_i k n
 cases hi
 cases hr with
 | str _ b hb =>
  split at hd
  ·rename_i h0
   split at hd
   ·rename_i u hu'
    injection hd with hd;subst hd
    have hlt:n.toNat<s.length:=by
     rcases lBB n.toNat s.length with h | h
     ·exact h
     ·simp [h] at hu'
    have hbs:b.size=s.length:=by rw [←hb];rfl
    have hg:b[n.toNat]? =some u:=by
     have:n.toNat<b.size:=by omega
     rw [ByteArray.getElem?_lt' b _ this]
     rw [←hb,lAG (by rw [hb];exact hlt)] at hu'
     injection hu' with hu'
     rw [←hu'];rfl
    exact ⟨_,by simp [Instr.index,asIntOf,z0C hu,h0,hg],.int _ _⟩
   ·cases hd
  ·cases hd
theorem z8w (cs:List AV) (off:Nat) (vs:List AV) (h:off+vs.length≤cs.length):(z4m cs off vs).length=cs.length:=by
 simp [z4m];omega
theorem zLU (cs:List AV) (off:Nat) (vs:List AV) (h:off+vs.length≤cs.length) (i:Nat) :
  (z4m cs off vs).getD i .top=if off≤i∧i<off+vs.length then vs.getD (i-off) .top else cs.getD i .top:=by
 simp only [z4m,lAB,lA2]
 by_cases h1:i<off
 ·rw [lAN (by simp;omega),if_neg (by omega)]
  simp [h1]
 ·rw [lAJ (by simp;omega)]
  have e:(cs.take off).length=off:=by simp;omega
  rw [e]
  by_cases h2:i<off+vs.length
  ·rw [if_pos ⟨by omega,h2⟩,lAN (by omega)]
  ·rw [if_neg (by omega),lAJ (by omega)]
   simp only [lDA]
   rw [show off+vs.length+(i-off-vs.length)=i by omega]
theorem zEE (off:Nat) (vs:List Value):∀ (k:Nat) (cs:Array Value) (i:Nat),off+k+vs.length≤cs.size →
  ((vs.zipIdx k).foldl (fun cs (x:Value × Nat)=>cs.setIfInBounds (off+x.2) x.1) cs).getD i undef =
   (if off+k≤i∧i<off+k+vs.length then vs.getD (i-off-k) undef else cs.getD i undef) ∧
  ((vs.zipIdx k).foldl (fun cs (x:Value × Nat)=>cs.setIfInBounds (off+x.2) x.1) cs).size=cs.size:=by
 induction vs with
 | nil=>intro k cs i h;simp;intro h1 h2;omega
 | cons v vs ih =>
  intro k cs i h
  simp only [lBE] at h
  simp only [List.zipIdx_cons,List.foldl_cons]
  obtain ⟨h1,h2⟩:=ih (k+1) (cs.setIfInBounds (off+k) v) i (by simp;omega)
  refine ⟨?_,by rw [h2];simp⟩
  rw [h1]
  simp only [lBE]
  by_cases c:off+(k+1)≤i∧i<off+(k+1)+vs.length
  ·rw [if_pos c,if_pos ⟨by omega,by omega⟩]
   rw [show i-off-k=(i-off-(k+1))+1 by omega]
   simp
  ·rw [if_neg c]
   by_cases e:i=off+k
   ·subst e
    rw [if_pos ⟨by omega,by omega⟩]
    simp [lAR,show off+k<cs.size by omega]
   ·rw [if_neg (by omega)]
    simp [lAR,show off+k≠i by omega]
theorem z6C {v:AV} {c:Value} (hv:v.shaped=true) (hr:VRel φ σ v c):v.cells.length=c.cells.size ∧
  ∀ i,VRel φ σ (v.cells.getD i .top) (c.cells.getD i undef):=by
 cases hr with
 | top=>simp [AV.shaped] at hv
 | agg cs cs' h r=>exact ⟨h,r⟩
 | _ =>
  refine ⟨rfl,fun i=>?_⟩
  cases i with
  | zero=>simp only [AV.cells,Value.cells];constructor<;>assumption
  | succ i=>simpa [AV.cells] using VRel.top _
end Go.Ab
namespace Go.Ab
variable {P:Program} {φ:Phi} {σ:Sig} {w:World}
theorem zRJ {cs:List AV} {vs:Array Value} {off:Nat} {v:AV} {c:Value} (h:z8N φ σ cs vs) (hv:v.shaped=true) (hr:VRel φ σ v c)
  (hle:off+v.cells.length≤cs.length) :
  z8N φ σ (z4m cs off v.cells) (c.cells.zipIdx.foldl (fun cs (x:Value × Nat)=>cs.setIfInBounds (off+x.2) x.1) vs):=by
 obtain ⟨hl,hg⟩:=h
 obtain ⟨h1,h2⟩:=z6C hv hr
 have e:(c.cells.zipIdx.foldl (fun cs (x:Value × Nat)=>cs.setIfInBounds (off+x.2) x.1) vs) =
   ((c.cells.toList.zipIdx 0).foldl (fun cs (x:Value × Nat)=>cs.setIfInBounds (off+x.2) x.1) vs):=by
  rw [←Array.foldl_toList,Array.toList_zipIdx]
 rw [e]
 have hs:c.cells.toList.length=v.cells.length:=by simp [h1]
 have key:=fun i=>zEE off c.cells.toList 0 vs i (by rw [hs];omega)
 refine ⟨by rw [(key 0).2,z8w _ _ _ hle,hl],fun i=>?_⟩
 rw [zLU _ _ _ hle,(key i).1]
 simp only [lDT,lEA,hs]
 by_cases c':off≤i∧i<off+v.cells.length
 ·rw [if_pos c',if_pos c',z1S]
  exact h2 _
 ·rw [if_neg c',if_neg c']
  exact hg i
theorem z8E (place:Nat→Option (Nat × Nat)):∀ (parts:List (Nat × Value)) (places:List (Nat × Nat)) (vs:List AV) (cs:List AV) (ccs:Array Value) (out:List AV),
  parts.map (fun x=>place x.1)=places.map some→vs.length=parts.length→(∀ i,VRel φ σ (vs.getD i .top) ((parts.map (·.2)).getD i undef)) →
  z8N φ σ cs ccs→z5M cs places vs=some out→∃ cout,Instr.fill place ccs parts=some cout∧z8N φ σ out cout
 | [],places,vs,cs,ccs,out,hp,hl,_,hc,hf=>by
  cases places with
  | cons p ps=>simp at hp
  | nil =>
   cases vs with
   | cons v vs=>simp at hl
   | nil=>simp only [z5M] at hf;injection hf with hf;subst hf;exact ⟨ccs,rfl,hc⟩
 | (i,c)::parts,places,vs,cs,ccs,out,hp,hl,hv,hc,hf=>by
  cases places with
  | nil=>simp at hp
  | cons p ps =>
   obtain ⟨off,size⟩:=p
   cases vs with
   | nil=>simp at hl
   | cons v vs =>
    simp only [lA6,List.cons.injEq] at hp
    simp only [z5M] at hf
    split at hf
    ·rename_i hb
     simp only [lAQ,lCY,lAD] at hb
     obtain ⟨⟨hs,hsz⟩,hle⟩:=hb
     have hr:VRel φ σ v c:=by simpa using hv 0
     have h1:=(z6C hs hr).1
     have hc':=zRJ (off:=off) hc hs hr (by omega)
     obtain ⟨cout,h3,h4⟩:=z8E place parts ps vs _ _ out hp.2 (by simpa using hl) (fun i=>by simpa using hv (i+1)) hc' hf
     refine ⟨cout,?_,h4⟩
     simp only [Instr.fill,hp.1]
     rw [if_neg]
     ·exact h3
     ·simp only [ne_eq,lBX,lAD,not_or]
      have:=hc.1
      omega
    ·cases hf
def z5d (P:Program) (t:TypeId):Option (List AV) :=
 match (P.info? t).bind (·.zero) with
 | some v=>match zNk v with
  | some x=>some x.cells
  | none=>none
 | none=>none
theorem zFn {v:Value} {x:AV} (h:zNk v=some x):x.shaped=true:=by
 have key:∀ (v:Value) (x:AV),zCb v=some x→x.shaped=true:=by
  intro v x h
  unfold zCb at h
  split at h<;>first | (injection h with h;subst h;rfl) | cases h
 unfold zNk at h
 split at h
 ·rename_i cs;cases hh:zBJ cs.toList<;>simp [hh] at h;subst h;rfl
 ·rename_i cs;cases hh:zBJ cs.toList<;>simp [hh] at h;subst h;rfl
 ·rename_i t v;cases hh:zCb v<;>simp [hh] at h;subst h;rfl
 ·exact key _ _ h
theorem z3J {t:TypeId} {zs:List AV} (h:z5d P t=some zs):∃ z,(zeroValue t).run P w=.ok z w∧z8N φ σ zs z.cells:=by
 unfold z5d at h
 split at h
 ·rename_i v hv
  split at h
  ·rename_i x hx
   injection h with h;subst h
   cases hi:P.info? t with
   | none=>simp [hi] at hv
   | some i =>
    simp only [hi,Option.bind_some] at hv
    refine ⟨v,by simp [zeroValue,typeInfo,hi,hv],?_⟩
    exact z6C (zFn hx) (z9N hx)
  ·cases h
 ·cases h
theorem zJe (fields:List Field) (hs:∀ f∈fields,(z1n P f.type).isSome=true) :
  (fields.mapM (m:=Sem) fun f=>do pure (f.offset,←sizeOf f.type)).run P w=.ok (fields.map fun f=>(f.offset,(z1n P f.type).getD 0)) w:=by
 induction fields with
 | nil=>simp [List.mapM_nil]
 | cons f fs ih =>
  have h1:=hs f (by simp)
  cases hz:z1n P f.type with
  | none=>simp [hz] at h1
  | some z =>
   have ih':=ih fun g hg=>hs g (by simp [hg])
   simp only [List.mapM_cons,Sem.run_bind,z1P (w:=w) hz,Result.andThen_ok,Sem.run_pure,lA6,hz,lB1] at ih' ⊢
   rw [ih']
   simp
def z8p (P:Program) (fields:Array Field):List Nat→Option (List (Nat × Nat))
 | []=>some []
 | i::is=>match fields[i]?,z8p P fields is with
  | some f,some ps=>match z1n P f.type with
   | some z=>some ((f.offset,z)::ps)
   | none=>none
  | _,_=>none
theorem z9E {fields:Array Field}:∀ {is:List Nat} {ps:List (Nat × Nat)},z8p P fields is=some ps →
  is.map (fun i=>(fields.map fun f=>(f.offset,(z1n P f.type).getD 0))[i]?)=ps.map some
 | [],ps,h=>by simp only [z8p] at h;injection h with h;subst h;rfl
 | i::is,ps,h=>by
  simp only [z8p] at h
  split at h
  ·rename_i f qs hf hq
   split at h
   ·rename_i z hz
    injection h with h;subst h
    have ih:=z9E hq
    rw [lA6,lA6,ih]
    simp [hf,hz]
   ·cases h
  ·cases h
theorem zNC {t:TypeId} {fields:Array Field} {zs:List AV} {parts:List (Nat × Value)} {ps:List (Nat × Nat)} {vs:List AV} {out:AV}
  (hu:P.underlying t=some (.struct fields)) (hz:z5d P t=some zs) (hp:z8p P fields (parts.map (·.1))=some ps)
  (hs:(fields.toList.all fun f=>(z1n P f.type).isSome)=true)
  (hl:vs.length=parts.length) (hv:∀ i,VRel φ σ (vs.getD i .top) ((parts.map (·.2)).getD i undef))
  (hd:z1W (.build zs ps) vs=some out):∃ c,(Instr.build t parts.toArray).run P w=.ok c w∧VRel φ σ out c:=by
 obtain ⟨z,h1,h2⟩:=z3J (φ:=φ) (σ:=σ) (w:=w) hz
 simp only [z1W] at hd
 cases hf:z5M zs ps vs with
 | none=>simp [hf] at hd
 | some o =>
  simp only [hf,lBH] at hd
  injection hd with hd;subst hd
  have hpl:=z9E hp
  rw [lB0] at hpl
  generalize ha:(fields.map fun f=>(f.offset,(z1n P f.type).getD 0))=arr at hpl
  obtain ⟨cout,h3,h4⟩:=z8E (φ:=φ) (σ:=σ) (fun i=>arr[i]?) parts ps vs zs z.cells o hpl hl hv h2 hf
  refine ⟨.agg cout,?_,.agg _ _ h4.1 h4.2⟩
  have h5:=zJe (P:=P) (w:=w) fields.toList (by simpa only [lAX] using hs)
  simp only [Instr.build,Sem.run_bind,h1,Result.andThen_ok,z0C hu,Array.mapM_eq_mapM_toList,Sem.run_map,h5]
  have e:(List.map (fun f=>(f.offset,(z1n P f.type).getD 0)) fields.toList).toArray=arr:=by
   rw [←ha,←lDP]
  rw [e]
  rw [h3]
  rfl
theorem zFf {t e:TypeId} {len sz:Nat} {zs:List AV} {parts:List (Nat × Value)} {vs:List AV} {out:AV}
  (hu:P.underlying t=some (.array len e)) (hz:z5d P t=some zs) (hs:z1n P e=some sz)
  (hl:vs.length=parts.length) (hv:∀ i,VRel φ σ (vs.getD i .top) ((parts.map (·.2)).getD i undef))
  (hd:z1W (.build zs (parts.map fun x=>(x.1*sz,sz))) vs=some out):∃ c,(Instr.build t parts.toArray).run P w=.ok c w∧VRel φ σ out c:=by
 obtain ⟨z,h1,h2⟩:=z3J (φ:=φ) (σ:=σ) (w:=w) hz
 simp only [z1W] at hd
 cases hf:z5M zs (parts.map fun x=>(x.1*sz,sz)) vs with
 | none=>simp [hf] at hd
 | some o =>
  simp only [hf,lBH] at hd
  injection hd with hd;subst hd
  obtain ⟨cout,h3,h4⟩:=z8E (φ:=φ) (σ:=σ) (fun i=>some (i*sz,sz)) parts (parts.map fun x=>(x.1*sz,sz)) vs zs z.cells o (by simp [lB0,Function.comp_def]) hl hv h2 hf
  refine ⟨.agg cout,?_,.agg _ _ h4.1 h4.2⟩
  simp only [Instr.build,Sem.run_bind,h1,Result.andThen_ok,z0C hu,z1P (w:=w) hs,h3,Sem.run_pure]
theorem z7X {s:ByteArray} {l:List UInt8} (h:s.data.toList=l):s.toList=l:=by rw [ByteArray.toList_eq];exact h
theorem zCm {s:ByteArray} {l:List UInt8} (h:s.data.toList=l):s.size=l.length:=by rw [←h];rfl
theorem zGk {op:BinOp} {k:IntKind} {a b:Int} {v:AV} {t:TypeId} (hd:z3q op k a b=some v) (h1:op≠.shl) (h2:op≠.shr) :
    ∃ c,(binOp op t (.int k a) (.int k b)).run P w=.ok c w∧VRel φ σ v c:=by
  cases op<;>simp only [z3q] at hd <;>
    first
    | (exact absurd rfl h1)
    | (exact absurd rfl h2)
    | (injection hd with hd;subst hd;exact ⟨_,by simp only [binOp,ne_eq,not_true_eq_false,↓reduceIte,Op.intArith,Op.intBits,Op.intCmp];rfl,by constructor⟩)
    | (split at hd
       · cases hd
       · rename_i hb
         injection hd with hd;subst hd
         exact ⟨_,by simp [binOp,Op.intDiv,hb];rfl,by constructor⟩)
theorem zGj {op:BinOp} {a b:List UInt8} {x y:ByteArray} {v:AV} {t:TypeId} (hx:x.data.toList=a) (hy:y.data.toList=b)
    (hd:z6A op a b=some v):∃ c,(binOp op t (.string x) (.string y)).run P w=.ok c w∧VRel φ σ v c:=by
  have h1:=z7X hx
  have h2:=z7X hy
  cases op<;>simp only [z6A] at hd <;>
    first
    | (cases hd;done)
    | (injection hd with hd;subst hd;exact ⟨_,by simp only [binOp,Op.stringOp,h1,h2];rfl,by constructor⟩)
    | (split at hd
       · rename_i hb
         injection hd with hd;subst hd
         have hb':¬ (((x.size+y.size:Nat):Int)>IntKind.i64.max):=by rw [zCm hx,zCm hy];simp only [IntKind.max_i64];omega
         refine ⟨.string (x++y),?_,.str _ _ (by simp [hx,hy])⟩
         simp only [binOp,Op.stringOp,if_neg hb',Sem.run_pure]
       · cases hd)
theorem zPq {op:BinOp} {x y v:AV} {c d:Value} {t:TypeId} (hd:zDV op x y=some v) (hx:VRel φ σ x c) (hy:VRel φ σ y d) :
  ∃ r,(binOp op t c d).run P w=.ok r w∧VRel φ σ v r:=by
 unfold zDV at hd
 split at hd
 ·rename_i k a k' b
  cases hx;cases hy
  split at hd
  ·cases hd
  ·rename_i hb
   injection hd with hd;subst hd
   exact ⟨_,by simp [binOp,Op.shift,hb];rfl,by constructor⟩
 ·rename_i k a k' b
  cases hx;cases hy
  split at hd
  ·cases hd
  ·rename_i hb
   injection hd with hd;subst hd
   exact ⟨_,by simp [binOp,Op.shift,hb];rfl,by constructor⟩
 ·rename_i k a k' b h1 h2
  cases hx;cases hy
  split at hd
  ·rename_i hk
   subst hk
   exact zGk hd h1 h2
  ·cases hd
 ·rename_i a b
  cases hx with
  | str _ x hx=>cases hy with
   | str _ y hy=>exact zGj hx hy hd
 ·cases hd
theorem zAs {op:BinOp} {t:TypeId} {x y:Operand} {c d:Value} (h:¬ (c=.nilIface∧d=.nilIface))
    (h':∀ a b,¬ (c=.agg a∧d=.agg b)):(eqGuard op t x y c d).run P w=.ok () w:=by
  cases op<;>simp only [eqGuard]<;>first
    | rfl
    | (simp only [lDL,lAV,if_false]
       split
       · exact absurd ⟨rfl,rfl⟩ h
       · exact absurd ⟨rfl,rfl⟩ (h' _ _)
       · rfl)
def EqD.fits (d:EqD) (t:TypeDesc):Bool :=
 match d,t with
 | .bool,.bool=>true
 | .ptr,.pointer _=>true
 | .slice,.slice _=>true
 | .map,.map _ _=>true
 | .func,.func _ _ _=>true
 | .iface,.interface _=>true
 | _,_=>false
theorem zLe {x:AV} {c:Value} (h:x.isPtr=true) (hr:VRel φ σ x c):∃ a,c=.pointer (some a):=by
 cases hr<;>simp [AV.isPtr] at h<;>exact ⟨_,rfl⟩
theorem zDz {x:AV} {c:Value} (h:x.isSlice=true) (hr:VRel φ σ x c):∃ a n m,c=.slice (some a) n m:=by
 cases hr<;>simp [AV.isSlice] at h<;>exact ⟨_,_,_,rfl⟩
theorem z4E {t:TypeId} {c e:Value} {b:Bool} (h:∀ d,(Op.equalIn (d+1) t c e).run P w=.ok b w):(Op.equal t c e).run P w=.ok b w:=h 9999
theorem zMj {d:EqD} {t:TypeId} {td:TypeDesc} {x y:AV} {c e:Value} {b:Bool} (hu:P.underlying t=some td) (hf:d.fits td=true)
  (hd:zXe d x y=some b) (hx:VRel φ σ x c) (hy:VRel φ σ y e):(Op.equal t c e).run P w=.ok b w∧¬ (c=.nilIface∧e=.nilIface) ∧
   (∀ a b,¬ (c=.agg a∧e=.agg b))∧(binOp .eql t c e=(do pure (.bool (← Op.equal t c e))))∧(binOp .neq t c e=(do pure (.bool (!(← Op.equal t c e))))):=by
 unfold zXe at hd
 split at hd
 case h_1 =>
  cases hx;cases hy;injection hd with hd;subst hd
  cases td<;>simp [EqD.fits] at hf
  exact ⟨z4E fun D=>by simp [Op.equalIn,z0C hu],by simp,by simp,rfl,rfl⟩
 case h_2 =>
  cases hx;cases hy;injection hd with hd;subst hd
  cases td<;>simp [EqD.fits] at hf
  exact ⟨z4E fun D=>by simp [Op.equalIn,z0C hu],by simp,by simp,rfl,rfl⟩
 case h_3 =>
  split at hd
  ·rename_i hp
   obtain ⟨a,rfl⟩:=zLe hp hy
   cases hx;injection hd with hd;subst hd
   cases td<;>simp [EqD.fits] at hf
   exact ⟨z4E fun D=>by simp [Op.equalIn,z0C hu],by simp,by simp,rfl,rfl⟩
  ·cases hd
 case h_4 =>
  split at hd
  ·rename_i hp
   obtain ⟨a,rfl⟩:=zLe hp hx
   cases hy;injection hd with hd;subst hd
   cases td<;>simp [EqD.fits] at hf
   exact ⟨z4E fun D=>by simp [Op.equalIn,z0C hu],by simp,by simp,rfl,rfl⟩
  ·cases hd
 case h_5 =>
  cases hx;cases hy;injection hd with hd;subst hd
  cases td<;>simp [EqD.fits] at hf
  exact ⟨z4E fun D=>by simp [Op.equalIn,z0C hu],by simp,by simp,rfl,rfl⟩
 case h_6 =>
  split at hd
  ·rename_i hp
   obtain ⟨a,n,m,rfl⟩:=zDz hp hy
   cases hx;injection hd with hd;subst hd
   cases td<;>simp [EqD.fits] at hf
   exact ⟨z4E fun D=>by simp [Op.equalIn,z0C hu],by simp,by simp,rfl,rfl⟩
  ·cases hd
 case h_7 =>
  split at hd
  ·rename_i hp
   obtain ⟨a,n,m,rfl⟩:=zDz hp hx
   cases hy;injection hd with hd;subst hd
   cases td<;>simp [EqD.fits] at hf
   exact ⟨z4E fun D=>by simp [Op.equalIn,z0C hu],by simp,by simp,rfl,rfl⟩
  ·cases hd
 case h_16=>cases hd
 all_goals
  cases hx;cases hy;injection hd with hd;subst hd
  cases td<;>simp [EqD.fits] at hf
  exact ⟨z4E fun D=>by simp [Op.equalIn,z0C hu],by simp,by simp,rfl,rfl⟩
theorem zSD {op:UnOp} {x v:AV} {c:Value} (hd:dun op x=some v) (hx:VRel φ σ x c):∃ r,(Op.unary op c).run P w=.ok r w∧VRel φ σ v r:=by
 unfold dun at hd
 split at hd
 ·cases hx;injection hd with hd;subst hd;exact ⟨_,rfl,by constructor⟩
 ·cases hx;injection hd with hd;subst hd;exact ⟨_,rfl,by constructor⟩
 ·cases hd
end Go.Ab
namespace Go.Ab
variable {P:Program} {φ:Phi} {σ:Sig} {w:World}
theorem z2q {k:IntKind} {i:Int} {y:Nat} {code:BoundsCode} (h0:0≤i) (h1:i≤y):(Instr.sliceBound (.int k i) y code).run P w=.ok i.toNat w:=by
 simp [Instr.sliceBound,asIntOf,h0,h1]
theorem z4y {n cap:Nat} {lo hi:Bool} {args:List AV} {l h:Nat} {cl ch:Option Value} {s:Bool} (hn:n≤cap) (hb:z2f n lo hi args=some (l,h))
  (hl:cl.isSome=lo) (hh:ch.isSome=hi) (hr:∀ i,VRel φ σ (args.getD i .top) ((cl.toList++ch.toList).getD i undef)) :
  (Instr.sliceBounds s n cap cl ch none).run P w=.ok (l,h,cap) w∧l≤h∧h≤n∧(lo=false→l=0):=by
 unfold z2f at hb
 split at hb
 ·injection hb with hb;injection hb with h1 h2;subst h1;subst h2
  cases cl<;>simp at hl
  cases ch<;>simp at hh
  exact ⟨by simp [Instr.sliceBounds],by omega,by omega,fun _=>rfl⟩
 ·rename_i k i
  split at hb
  ·rename_i hc
   injection hb with hb;injection hb with h1 h2;subst h1;subst h2
   cases cl with
   | none=>simp at hl
   | some v =>
    cases ch<;>simp at hh
    have hv:VRel φ σ (.int k i) v:=by simpa using hr 0
    cases hv
    have:=z2q (P:=P) (w:=w) (k:=k) (code:=.sliceB) hc.1 hc.2
    exact ⟨by simp [Instr.sliceBounds,this],by omega,by omega,by simp⟩
  ·cases hb
 ·rename_i k i
  split at hb
  ·rename_i hc
   injection hb with hb;injection hb with h1 h2;subst h1;subst h2
   cases cl<;>simp at hl
   cases ch with
   | none=>simp at hh
   | some v =>
    have hv:VRel φ σ (.int k i) v:=by simpa using hr 0
    cases hv
    have h1:=fun code=>z2q (P:=P) (w:=w) (k:=k) (code:=code) (y:=cap) hc.1 (by omega)
    exact ⟨by simp [Instr.sliceBounds,h1],by omega,by omega,fun _=>rfl⟩
  ·cases hb
 ·rename_i k i k' j
  split at hb
  ·rename_i hc
   injection hb with hb;injection hb with h1 h2;subst h1;subst h2
   cases cl with
   | none=>simp at hl
   | some u =>
    cases ch with
    | none=>simp at hh
    | some v =>
     have hu:VRel φ σ (.int k i) u:=by simpa using hr 0
     have hv:VRel φ σ (.int k' j) v:=by simpa using hr 1
     cases hu;cases hv
     have h1:=fun code=>z2q (P:=P) (w:=w) (k:=k') (code:=code) (y:=cap) hc.1 (by omega)
     have h2:=z2q (P:=P) (w:=w) (k:=k) (code:=.sliceB) (y:=j.toNat) hc.2.2.1 (by omega)
     exact ⟨by simp [Instr.sliceBounds,h1,h2],by omega,by omega,by simp⟩
  ·cases hb
 ·cases hb
theorem zBQ {s:ByteArray} {l:List UInt8} (h:s.data.toList=l) (a b:Nat):(s.extract a b).data.toList=(l.drop a).take (b-a):=by
 rw [←h];simp [ByteArray.data_extract,Array.toList_extract,List.extract_eq_take_drop]
theorem zAk {sz:Nat}:∀ (xs:List AV) (l i:Nat),(∀ x∈xs,x.cells.length=sz)→l≤xs.length →
  (z0j (xs.drop l))[i]? =(z0j xs)[l*sz+i]?
 | xs,0,i,_,_=>by simp
 | [],l+1,i,_,h=>by simp at h
 | x::xs,l+1,i,hs,h=>by
  have hx:=hs x (by simp)
  have ih:=zAk (sz:=sz) xs l i (fun y hy=>hs y (by simp [hy])) (by simpa using h)
  simp only [z0j] at ih
  simp only [List.drop_succ_cons,ih,z0j,lBU]
  rw [show (l+1)*sz+i=x.cells.length+(l*sz+i) by rw [hx,lCH];omega]
  rw [lAJ (by omega),lC4]
theorem zAj {sz:Nat}:∀ (xs:List AV) (m i:Nat),(∀ x∈xs,x.cells.length=sz)→m≤xs.length →
  (z0j (xs.take m))[i]? =if i<m*sz then (z0j xs)[i]? else none
 | xs,0,i,_,_=>by simp [z0j]
 | [],m+1,i,_,h=>by simp at h
 | x::xs,m+1,i,hs,h=>by
  have hx:=hs x (by simp)
  have ih:=zAj (sz:=sz) xs m (i-sz) (fun y hy=>hs y (by simp [hy])) (by simpa using h)
  have e:(m+1)*sz=sz+m*sz:=by rw [lCH];omega
  simp only [lBQ,z0j,lBU] at ih ⊢
  by_cases hi:i<sz
  ·rw [lAN (by omega),lAN (by omega),if_pos (by omega)]
  ·rw [lAJ (by omega),lAJ (by omega),hx,ih,e]
   by_cases h2:i-sz<m*sz
   ·rw [if_pos h2,if_pos (by omega)]
   ·rw [if_neg h2,if_neg (by omega)]
theorem z1s {t e:TypeId} {sz n cap l h:Nat} {a:Option Addr} {cl ch:Option Value} (hu:P.underlying t=some (.slice e)) (hs:z1n P e=some sz)
  (h1:(Instr.sliceBounds true n cap cl ch none).run P w=.ok (l,h,cap) w) :
  (Instr.sliceAt t (.slice a n cap) cl ch none).run P w=.ok (.slice (if cap=l then a else a.map (·.add (l*sz))) (h-l) (cap-l)) w:=by
 simp [Instr.sliceAt,Instr.slice,z0C hu,h1,z1P (w:=w) hs]
theorem zLM {t e:TypeId} {sz:Nat} {lo hi:Bool} {x v:AV} {args:List AV} {c:Value} {cl ch:Option Value}
  (hu:P.underlying t=some (.slice e)) (hs:z1n P e=some sz) (hd:z8G sz lo hi x args=some v) (hx:VRel φ σ x c)
  (hl:cl.isSome=lo) (hh:ch.isSome=hi) (hr:∀ i,VRel φ σ (args.getD i .top) ((cl.toList++ch.toList).getD i undef)) :
  ∃ c',(Instr.sliceAt t c cl ch none).run P w=.ok c' w∧VRel φ σ v c':=by
 unfold z8G at hd
 split at hd
 ·cases hx
  split at hd
  ·rename_i r hb
   obtain ⟨l,h⟩:=r
   injection hd with hd;subst hd
   obtain ⟨h1,h2,h4,_⟩:=z4y (P:=P) (w:=w) (s:=true) (lAL 0) hb hl hh hr
   obtain rfl:h=0:=by omega
   obtain rfl:l=0:=by omega
   exact ⟨_,by rw [z1s hu hs h1];rfl,.nilslice⟩
  ·cases hd
 ·rename_i id off n sz'
  split at hd
  ·rename_i hz
   subst hz
   cases hx with
   | sl _ _ _ _ cap L hφ hn hc =>
    split at hd
    ·rename_i l h hb
     obtain ⟨h1,h2,h4,h5⟩:=z4y (P:=P) (w:=w) (s:=true) hn hb hl hh hr
     split at hd
     ·rename_i hlh
      injection hd with hd;subst hd
      simp only [lAQ,lCY] at hlh
      obtain ⟨_,rfl⟩:=hlh
      by_cases hcl:cap=l
      ·refine ⟨.slice (some (at_ L.b (L.o+off))) (l-l) (cap-l),by rw [z1s hu hs h1,if_pos hcl],?_⟩
       rw [lBJ]
       exact .list _ _ _ _ _ _ (fun _=>undef) (by simp) rfl (by omega) (by simp [z0j]) (by simp [z0j];exact .top _)
      ·refine ⟨.slice (some (at_ L.b (L.o+off+l*sz))) (l-l) (cap-l),by rw [z1s hu hs h1,if_neg hcl];simp [z4z],?_⟩
       rw [lBJ]
       exact .list _ _ _ _ _ _ (fun _=>undef) (by simp) rfl (by omega) (by simp [z0j]) (by simp [z0j];exact .top _)
     ·rename_i hlh
      injection hd with hd;subst hd
      have key:cap=l→l=0:=by
       intro hcl
       cases lo with
       | false=>exact h5 rfl
       | true =>
        simp only [lCT,lCY] at hlh
        omega
      refine ⟨.slice (some (at_ L.b (L.o+(off+l*sz)))) (h-l) (cap-l),?_,.sl _ _ _ _ _ L hφ (by omega) ?_⟩
      ·by_cases hcl:cap=l
       ·have:=key hcl
        rw [z1s hu hs h1,if_pos hcl]
        simp [this]
       ·rw [z1s hu hs h1,if_neg hcl]
        simp [z4z,lBK]
      ·have:l*sz+(cap-l)*sz=cap*sz:=by rw [←lCH];congr 1;omega
       omega
    ·cases hd
  ·cases hd
 ·rename_i sz' xs
  split at hd
  ·rename_i hz
   subst hz
   cases hx with
   | list _ _ b o n cap f hsz hxn hn h r =>
    split at hd
    ·rename_i l hh' hb
     injection hd with hd;subst hd
     subst hxn
     obtain ⟨h1,h2,h4,h5⟩:=z4y (P:=P) (w:=w) (s:=true) hn hb hl hh hr
     have hd':∀ y∈xs.drop l,y.cells.length=sz:=fun y hy=>hsz y (lDG hy)
     have key:∀ i,(z0j ((xs.drop l).take (hh'-l)))[i]? =if i<(hh'-l)*sz then (z0j xs)[l*sz+i]? else none:=by
      intro i
      rw [zAj (sz:=sz) _ _ _ hd' (by simp;omega),zAk (sz:=sz) _ _ _ hsz (by omega)]
     have hlen:(z0j ((xs.drop l).take (hh'-l))).length=(hh'-l)*sz:=by
      rw [z2z (sz:=sz) _ (fun y hy=>hd' y (lCF hy))]
      rw [lCW,lC3,Nat.min_eq_left (by omega)]
     have hflat:=z2z (sz:=sz) xs hsz
     have hle:l*sz+(hh'-l)*sz≤xs.length*sz:=by
      rw [←lCH];exact lDF _ (by omega)
     by_cases hcl:cap=l
     ·refine ⟨.slice (some (at_ b o)) (hh'-l) (cap-l),by rw [z1s hu hs h1,if_pos hcl],?_⟩
      have h0:hh'-l=0:=by omega
      refine .list _ _ _ _ _ _ (fun _=>undef) (fun y hy=>hd' y (lCF hy)) (by simp;omega) (by omega) (fun i hi=>?_) (fun i=>?_)
      ·rw [hlen,h0] at hi;omega
      ·rw [lAB,key,h0];simp;exact .top _
     ·refine ⟨.slice (some (at_ b (o+l*sz))) (hh'-l) (cap-l),by rw [z1s hu hs h1,if_neg hcl];simp [z4z],?_⟩
      refine .list _ _ _ _ _ _ (fun i=>f (l*sz+i)) (fun y hy=>hd' y (lCF hy)) (by simp;omega) (by omega) (fun i hi=>?_) (fun i=>?_)
      ·rw [hlen] at hi
       rw [lBK]
       exact h _ (by omega)
      ·rw [lAB,key]
       split
       ·rw [←lAB];exact r _
       ·exact .top _
    ·cases hd
   | elist _ a =>
    split at hd
    ·rename_i l hh' hb
     injection hd with hd;subst hd
     obtain ⟨h1,h2,h4,h5⟩:=z4y (P:=P) (w:=w) (s:=true) (lAL 0) hb hl hh hr
     obtain rfl:l=0:=by have:hh'≤0:=h4;omega
     obtain rfl:hh'=0:=by have:hh'≤0:=h4;omega
     exact ⟨_,by rw [z1s hu hs h1];rfl,.elist _ a⟩
    ·cases hd
  ·cases hd
 ·cases hd
theorem z7N {n cap:Nat} {lo:Bool} {args:List AV} {l h:Nat} {cl:Option Value} {ch cm:Value} (hn:n≤cap) (hb:z4T n lo args=some (l,h))
  (hl:cl.isSome=lo) (hr:∀ i,VRel φ σ (args.getD i .top) ((cl.toList++[ch,cm]).getD i undef)) :
  (Instr.sliceBounds true n cap cl (some ch) (some cm)).run P w=.ok (l,h,h) w∧l≤h∧h≤n:=by
 unfold z4T at hb
 split at hb
 ·rename_i k i k' m
  split at hb
  ·rename_i hc
   injection hb with hb;injection hb with h1 h2;subst h1;subst h2
   cases cl<;>simp at hl
   have hv:VRel φ σ (.int k i) ch:=by simpa using hr 0
   have hm:VRel φ σ (.int k' m) cm:=by simpa using hr 1
   cases hv;cases hm
   obtain ⟨c1,c2,rfl⟩:=hc
   have h1:=z2q (P:=P) (w:=w) (k:=k') (code:=.slice3Acap) (y:=cap) c1 (by omega)
   have h2:=z2q (P:=P) (w:=w) (k:=k) (code:=.slice3B) (y:=m.toNat) c1 (by omega)
   exact ⟨by simp [Instr.sliceBounds,h1,h2],by omega,by omega⟩
  ·cases hb
 ·rename_i k i k' j k'' m
  split at hb
  ·rename_i hc
   injection hb with hb;injection hb with h1 h2;subst h1;subst h2
   cases cl with
   | none=>simp at hl
   | some u =>
    have hu:VRel φ σ (.int k i) u:=by simpa using hr 0
    have hv:VRel φ σ (.int k' j) ch:=by simpa using hr 1
    have hm:VRel φ σ (.int k'' m) cm:=by simpa using hr 2
    cases hu;cases hv;cases hm
    obtain ⟨c1,c2,c3,c4,rfl⟩:=hc
    have h1:=z2q (P:=P) (w:=w) (k:=k'') (code:=.slice3Acap) (y:=cap) c1 (by omega)
    have h2:=z2q (P:=P) (w:=w) (k:=k') (code:=.slice3B) (y:=m.toNat) c1 (by omega)
    have h3:=z2q (P:=P) (w:=w) (k:=k) (code:=.slice3C) (y:=m.toNat) c3 (by omega)
    exact ⟨by simp [Instr.sliceBounds,h1,h2,h3],by omega,by omega⟩
  ·cases hb
 ·cases hb
theorem z3X {t e:TypeId} {sz n cap l h:Nat} {a:Option Addr} {cl:Option Value} {ch cm:Value} (hu:P.underlying t=some (.slice e)) (hs:z1n P e=some sz)
  (h1:(Instr.sliceBounds true n cap cl (some ch) (some cm)).run P w=.ok (l,h,h) w) :
  (Instr.sliceAt t (.slice a n cap) cl (some ch) (some cm)).run P w=.ok (.slice (if h=l then a else a.map (·.add (l*sz))) (h-l) (h-l)) w:=by
 simp [Instr.sliceAt,Instr.slice,z0C hu,h1,z1P (w:=w) hs]
theorem zJa {t e:TypeId} {sz:Nat} {lo:Bool} {x v:AV} {args:List AV} {c:Value} {cl:Option Value} {ch cm:Value}
  (hu:P.underlying t=some (.slice e)) (hs:z1n P e=some sz) (hd:z8n sz lo x args=some v) (hx:VRel φ σ x c)
  (hl:cl.isSome=lo) (hr:∀ i,VRel φ σ (args.getD i .top) ((cl.toList++[ch,cm]).getD i undef)) :
  ∃ c',(Instr.sliceAt t c cl (some ch) (some cm)).run P w=.ok c' w∧VRel φ σ v c':=by
 unfold z8n at hd
 split at hd
 ·cases hx
  split at hd
  ·rename_i r hb
   obtain ⟨l,h⟩:=r
   injection hd with hd;subst hd
   obtain ⟨h1,h2,h4⟩:=z7N (P:=P) (w:=w) (lAL 0) hb hl hr
   obtain rfl:h=0:=by omega
   obtain rfl:l=0:=by omega
   exact ⟨_,by rw [z3X hu hs h1];rfl,.nilslice⟩
  ·cases hd
 ·rename_i sz' xs
  split at hd
  ·rename_i hz
   subst hz
   cases hx with
   | list _ _ b o n cap f hsz hxn hn h r =>
    split at hd
    ·rename_i l hh' hb
     injection hd with hd;subst hd
     subst hxn
     obtain ⟨h1,h2,h4⟩:=z7N (P:=P) (w:=w) hn hb hl hr
     have hd':∀ y∈xs.drop l,y.cells.length=sz:=fun y hy=>hsz y (lDG hy)
     have key:∀ i,(z0j ((xs.drop l).take (hh'-l)))[i]? =if i<(hh'-l)*sz then (z0j xs)[l*sz+i]? else none:=by
      intro i
      rw [zAj (sz:=sz) _ _ _ hd' (by simp;omega),zAk (sz:=sz) _ _ _ hsz (by omega)]
     have hlen:(z0j ((xs.drop l).take (hh'-l))).length=(hh'-l)*sz:=by
      rw [z2z (sz:=sz) _ (fun y hy=>hd' y (lCF hy))]
      rw [lCW,lC3,Nat.min_eq_left (by omega)]
     have hflat:=z2z (sz:=sz) xs hsz
     have hle:l*sz+(hh'-l)*sz≤xs.length*sz:=by
      rw [←lCH];exact lDF _ (by omega)
     by_cases hcl:hh'=l
     ·refine ⟨.slice (some (at_ b o)) (hh'-l) (hh'-l),by rw [z3X hu hs h1,if_pos hcl],?_⟩
      have h0:hh'-l=0:=by omega
      refine .list _ _ _ _ _ _ (fun _=>undef) (fun y hy=>hd' y (lCF hy)) (by simp;omega) (by omega) (fun i hi=>?_) (fun i=>?_)
      ·rw [hlen,h0] at hi;omega
      ·rw [lAB,key,h0];simp;exact .top _
     ·refine ⟨.slice (some (at_ b (o+l*sz))) (hh'-l) (hh'-l),by rw [z3X hu hs h1,if_neg hcl];simp [z4z],?_⟩
      refine .list _ _ _ _ _ _ (fun i=>f (l*sz+i)) (fun y hy=>hd' y (lCF hy)) (by simp;omega) (by omega) (fun i hi=>?_) (fun i=>?_)
      ·rw [hlen] at hi
       rw [lBK]
       exact h _ (by omega)
      ·rw [lAB,key]
       split
       ·rw [←lAB];exact r _
       ·exact .top _
    ·cases hd
   | elist _ a =>
    split at hd
    ·rename_i l hh' hb
     injection hd with hd;subst hd
     obtain ⟨h1,h2,h4⟩:=z7N (P:=P) (w:=w) (lAL 0) hb hl hr
     obtain rfl:l=0:=by have:hh'≤0:=h4;omega
     obtain rfl:hh'=0:=by have:hh'≤0:=h4;omega
     exact ⟨_,by rw [z3X hu hs h1];rfl,.elist _ a⟩
    ·cases hd
  ·cases hd
 ·cases hd
theorem zEA {t:TypeId} {lo hi:Bool} {s:List UInt8} {v:AV} {args:List AV} {c:Value} {cl ch:Option Value}
  (hu:P.underlying t=some .string) (hd:z1W (.sliceStr lo hi) (.str s::args)=some v) (hx:VRel φ σ (.str s) c)
  (hl:cl.isSome=lo) (hh:ch.isSome=hi) (hr:∀ i,VRel φ σ (args.getD i .top) ((cl.toList++ch.toList).getD i undef)) :
  ∃ c',(Instr.sliceAt t c cl ch none).run P w=.ok c' w∧VRel φ σ v c':=by
 simp only [z1W] at hd
 split at hd
 ·rename_i l h hb
  injection hd with hd;subst hd
  cases hx with
  | str _ b hbs =>
   rw [←zCm hbs] at hb
   obtain ⟨h1,h2,h4,h5⟩:=z4y (P:=P) (w:=w) (s:=false) (lAL _) hb hl hh hr
   exact ⟨.string (b.extract l h),by simp [Instr.sliceAt,Instr.slice,z0C hu,h1],.str _ _ (zBQ hbs _ _)⟩
 ·cases hd
def zKF (P:Program):Nat→List Field→Option (List EK)
 | _,[]=>some []
 | o,f::fs=>if f.name != "_" && f.offset==o&&(z4k P f.type==some none) then
   match P.underlying f.type,zKF P (o+1) fs with
   | some (.int _),some ks=>some (.int::ks)
   | some .string,some ks=>some (.str::ks)
   | some .bool,some ks=>some (.bool::ks)
   | _,_=>none
  else none
def zPj (P:Program) (t:TypeId) (fields:Array Field):Option (List EK):=if !P.stoodInHeld t && !P.eqGuardType P.depth t then zKF P 0 fields.toList else none
def cD (P:Program) (o:Oper):Option (DOp × List Operand) :=
 match o.op with
 | .move x | .assign x=>some (.move,[x])
 | .pick c a b=>some (.pick,[c,a,b])
 | .build t parts =>
  match P.underlying t,z5d P t with
  | some (.struct fields),some zs =>
   if fields.toList.all fun f=>(z1n P f.type).isSome then
    match z8p P fields (parts.toList.map (·.1)) with
    | some ps=>some (.build zs ps,parts.toList.map (·.2))
    | none=>none
   else none
  | some (.array _ e),some zs=>match z1n P e with
   | some sz=>some (.build zs (parts.toList.map fun x=>(x.1*sz,sz)),parts.toList.map (·.2))
   | none=>none
  | _,_=>none
 | .nilCheck x=>some (.nilCheck,[x])
 | .binOp op t x y _ =>
  match op,P.underlying t with
  | .eql,some .bool=>some (.eqv false .bool,[x,y])
  | .eql,some (.pointer _)=>some (.eqv false .ptr,[x,y])
  | .eql,some (.slice _)=>some (.eqv false .slice,[x,y])
  | .eql,some (.map _ _)=>some (.eqv false .map,[x,y])
  | .eql,some (.func _ _ _)=>some (.eqv false .func,[x,y])
  | .eql,some (.interface _)=>some (.eqv false .iface,[x,y])
  | .neq,some .bool=>some (.eqv true .bool,[x,y])
  | .neq,some (.pointer _)=>some (.eqv true .ptr,[x,y])
  | .neq,some (.slice _)=>some (.eqv true .slice,[x,y])
  | .neq,some (.map _ _)=>some (.eqv true .map,[x,y])
  | .neq,some (.func _ _ _)=>some (.eqv true .func,[x,y])
  | .neq,some (.interface _)=>some (.eqv true .iface,[x,y])
  | .eql,some (.struct fs)=>(zPj P t fs).map fun ks=>(.eqs false ks,[x,y])
  | .neq,some (.struct fs)=>(zPj P t fs).map fun ks=>(.eqs true ks,[x,y])
  | _,_=>some (.bin op,[x,y])
 | .unOp op _ x=>some (.un op,[x])
 | .convert s d x =>
  match P.underlying s,P.underlying d with
  | some (.int _),some (.int k)=>some (.conv k,[x])
  | some .string,some .string=>some (.convStr,[x])
  | _,_=>none
 | .makeInterface t x =>
  match P.underlying t with
  | some (.interface _) | none=>none
  | some _=>some (.mkIface t,[x])
 | .makeFunc fn first captured=>some (.mkFunc fn first.size,first.toList++captured.toList)
 | .slice t x lo hi mx =>
  match mx,P.underlying t with
  | none,some .string=>some (.sliceStr lo.isSome hi.isSome,x::(lo.toList++hi.toList))
  | none,some (.slice e)=>match z1n P e with
   | some z=>some (.sliceSl z lo.isSome hi.isSome,x::(lo.toList++hi.toList))
   | none=>none
  | some m,some (.slice e)=>match hi,z1n P e with
   | some h,some z=>some (.sliceSl3 z lo.isSome,x::(lo.toList++[h,m]))
   | _,_=>none
  | _,_=>none
 | .fieldAddr s x j =>
  match P.underlying s with
  | some (.struct fields)=>match fields[j]? with
   | some f=>match z1n P f.type with
    | some z=>if z=0 then none else some (.fieldAddr f.offset,[x])
    | none=>none
   | none=>none
  | _=>none
 | .field s x j =>
  match P.underlying s with
  | some (.struct fields)=>match fields[j]? with
   | some f=>match z4k P f.type with
    | some n=>some (.field f.offset n,[x])
    | none=>none
   | none=>none
  | _=>none
 | .indexAddr t x i =>
  match P.underlying t with
  | some (.slice e)=>match z1n P e with
   | some z=>some (.idxAddr z,[x,i])
   | none=>none
  | some (.array n e)=>match z1n P e with
   | some z=>some (.idxAddrArr n z,[x,i])
   | none=>none
  | _=>none
 | .index t x i =>
  match P.underlying t with
  | some .string=>some (.idxStr,[x,i])
  | some (.array n e)=>match z1n P e,z4k P e with
   | some z,some none=>some (.idxArr n z false,[x,i])
   | some z,some (some z')=>if z'=z then some (.idxArr n z true,[x,i]) else none
   | _,_=>none
  | _=>none
 | .extract x i=>some (.extract i,[x])
 | .typeAssert x _ t ok =>
  match P.underlying t,(P.info? t).bind (·.zero) with
  | some (.interface _),_ | none,_ | _,none=>none
  | some _,some z=>match zNk z with
   | some zv=>some (.assertTo t ok zv,[x])
   | none=>none
 | .call { callee:=.builtin .len,args,argTypes } =>
  match args.toList,argTypes[0]? with
  | [x],some t=>match P.underlying t with
   | some .string=>some (.lenStr,[x])
   | some (.slice _)=>some (.len,[x])
   | some (.array n _)=>some (.lenArr n,[x])
   | _=>none
  | _,_=>none
 | .call { callee:=.builtin .min,args,.. }=>match args.toList with
  | [x,y]=>some (.min,[x,y])
  | _=>none
 | .call { callee:=.builtin .max,args,.. }=>match args.toList with
  | [x,y]=>some (.max,[x,y])
  | _=>none
 | _=>none
theorem zCL {op:BinOp} {x y v:AV} (h:zDV op x y=some v):(∃ k n,x=.int k n)∨∃ s,x=.str s:=by
 unfold zDV at h
 split at h
 ·exact .inl ⟨_,_,rfl⟩
 ·exact .inl ⟨_,_,rfl⟩
 ·exact .inl ⟨_,_,rfl⟩
 ·exact .inr ⟨_,rfl⟩
 ·cases h
theorem z0b {x:Operand} {ρ:Operand→Value} {vs:List AV} (hl:vs.length=[x].length)
  (hr:∀ i,VRel φ σ (vs.getD i .top) (([x].map ρ).getD i undef)):∃ v,vs=[v]∧VRel φ σ v (ρ x):=by
 cases vs with
 | nil=>simp at hl
 | cons v vs=>cases vs with
  | nil=>exact ⟨v,rfl,by simpa using hr 0⟩
  | cons _ _=>simp at hl
theorem z1C {x y:Operand} {ρ:Operand→Value} {vs:List AV} (hl:vs.length=[x,y].length)
  (hr:∀ i,VRel φ σ (vs.getD i .top) (([x,y].map ρ).getD i undef)):∃ u v,vs=[u,v]∧VRel φ σ u (ρ x)∧VRel φ σ v (ρ y):=by
 match vs,hl with
 | [u,v],_=>exact ⟨u,v,rfl,by simpa using hr 0,by simpa using hr 1⟩
theorem zFW {x y z:Operand} {ρ:Operand→Value} {vs:List AV} (hl:vs.length=[x,y,z].length)
  (hr:∀ i,VRel φ σ (vs.getD i .top) (([x,y,z].map ρ).getD i undef)):∃ u v t,vs=[u,v,t]∧VRel φ σ u (ρ x)∧VRel φ σ v (ρ y)∧VRel φ σ t (ρ z):=by
 match vs,hl with
 | [u,v,t],_=>exact ⟨u,v,t,rfl,by simpa using hr 0,by simpa using hr 1,by simpa using hr 2⟩
theorem zMh {op:BinOp} {t yt:TypeId} {td:TypeDesc} {x y:Operand} {neg:Bool} {d:EqD} {o:Oper} {ρ:Operand→Value} {vs:List AV} {v:AV}
  (ho:o.op=.binOp op t x y yt) (hop:op=if neg then .neq else .eql) (hu:P.underlying t=some td) (hf:d.fits td=true)
  (hl:vs.length=[x,y].length) (hr:∀ i,VRel φ σ (vs.getD i .top) (([x,y].map ρ).getD i undef)) (hd:z1W (.eqv neg d) vs=some v) :
  ∃ c,(execOp ρ o).run P w=.ok (.value c) w∧VRel φ σ v c:=by
 obtain ⟨u,v',rfl,h1,h2⟩:=z1C hl hr
 simp only [z1W] at hd
 cases hq:zXe d u v' with
 | none=>simp [hq] at hd
 | some b =>
  simp only [hq,lBH] at hd
  injection hd with hd;subst hd
  obtain ⟨e1,e2,e3,e4,e5⟩:=zMj (w:=w) hu hf hq h1 h2
  have g:=zAs (P:=P) (w:=w) (op:=op) (t:=t) (x:=x) (y:=y) e2 e3
  refine ⟨.bool (if neg then !b else b),?_,.bool _⟩
  subst hop
  cases neg
  ·simp only [execOp,ho,lAV,if_false,e4] at g ⊢;simp [g,e1]
  ·simp only [execOp,ho,if_true,e5] at g ⊢;simp [g,e1]
theorem zCG {d:Nat} {xs ys:Array Value}:∀ (fs:List Field) (ks:List EK) (o:Nat) (us vs:List AV) (b:Bool),zKF P o fs=some ks→us.length=xs.size→vs.length=ys.size →
  (∀ i,VRel φ σ (us.getD i .top) (xs.getD i undef))→(∀ i,VRel φ σ (vs.getD i .top) (ys.getD i undef))→zKH ks (us.drop o) (vs.drop o)=some b→(Op.eqFields (d+1) xs ys fs).run P w=.ok b w
 | [],ks,o,us,vs,b,hf,_,_,_,_,hd=>by
  simp only [zKF,Option.some.injEq] at hf
  subst hf
  have:b=true:=by
   generalize us.drop o=p at hd
   generalize vs.drop o=q at hd
   cases p<;>cases q<;>simp [zKH] at hd
   exact hd
  subst this
  simp [Op.eqFields]
 | f::fs,ks,o,us,vs,b,hf,hxs,hys,hx,hy,hd=>by
  simp only [zKF] at hf
  split at hf
  rotate_left
  ·cases hf
  rename_i hc
  simp only [lAQ,bne_iff_ne,ne_eq,lCY] at hc
  obtain ⟨⟨hn,ho⟩,hs⟩:=hc
  obtain ⟨k,ks',rfl⟩:∃ k ks',ks=k::ks':=by
   split at hf<;>first | (injection hf with hf;exact ⟨_,_,hf.symm⟩) | cases hf
  have hou:o<us.length:=by
   rcases lBB o us.length with h | h
   ·exact h
   ·rw [lCG h] at hd
    cases k<;>simp [zKH] at hd
  have hov:o<vs.length:=by
   rcases lBB o vs.length with h | h
   ·exact h
   ·rw [lCG h] at hd
    generalize us.drop o=p at hd
    rcases p with _ | ⟨a,p⟩<;>cases k<;>(try cases a)<;>(try simp only [zKH] at hd)<;>cases hd
  rw [lB3 hou,lB3 hov] at hd
  have hxo:=hx o
  have hyo:=hy o
  rw [lAB,lAG hou,lB1] at hxo
  rw [lAB,lAG hov,lB1] at hyo
  have pt:∀ {zs:Array Value},o<zs.size→(part f.type zs f.offset).run P w=.ok (zs.getD o undef) w:=fun {zs} hz=>by
   have:=(z8a (w:=w) hs).1
   simp [part,this,ho,Array.getD,hz]
  have px:=pt (zs:=xs) (by omega)
  have py:=pt (zs:=ys) (by omega)
  have ih:=fun b' hr=>zCG (d:=d) fs ks' (o+1) us vs b' hr hxs hys hx hy
  generalize us[o]=u at *
  generalize vs[o]=v at *
  generalize xs.getD o undef=cx at *
  generalize ys.getD o undef=cy at *
  have key:∃ q r,zKH ks' (us.drop (o+1)) (vs.drop (o+1))=some r∧b=(q&&r)∧zKF P (o+1) fs=some ks'∧(Op.equalIn (d+1) f.type cx cy).run P w=.ok q w:=by
   split at hf
   ·rename_i kk ks2 hq h2
    injection hf with hf
    injection hf with hf1 hf2
    subst hf1;subst hf2
    cases u<;>cases v<;>(try simp only [zKH] at hd)<;>(try (cases hd;done))
    split at hd
    ·rename_i hk
     subst hk
     rw [lC8] at hd
     obtain ⟨r,h1,h3⟩:=hd
     cases hxo;cases hyo
     exact ⟨_,r,h1,h3.symm,h2,run_equalIn_int w d _ _ _ _ _ hq⟩
    ·cases hd
   ·rename_i ks2 hq h2
    injection hf with hf
    injection hf with hf1 hf2
    subst hf1;subst hf2
    cases u<;>cases v<;>(try simp only [zKH] at hd)<;>(try (cases hd;done))
    rw [lC8] at hd
    obtain ⟨r,h1,h3⟩:=hd
    cases hxo with
    | str _ x hx=>cases hyo with
     | str _ y hy =>
      refine ⟨_,r,h1,h3.symm,h2,?_⟩
      rw [run_equalIn_string w d _ _ _ hq,ByteArray.toList_eq,ByteArray.toList_eq,←hx,←hy]
   ·rename_i ks2 hq h2
    injection hf with hf
    injection hf with hf1 hf2
    subst hf1;subst hf2
    cases u<;>cases v<;>(try simp only [zKH] at hd)<;>(try (cases hd;done))
    rw [lC8] at hd
    obtain ⟨r,h1,h3⟩:=hd
    cases hxo;cases hyo
    exact ⟨_,r,h1,h3.symm,h2,run_equalIn_bool' w d _ _ _ hq⟩
   ·cases hf
  obtain ⟨q,r,h1,h2,h4,h3⟩:=key
  simp only [Op.eqFields,hn,ne_eq,not_false_eq_true,if_true,Sem.run_bind,px,py,h3,Result.andThen_ok]
  subst h2
  cases q
  ·simp
  ·simpa using ih r h4 h1
theorem zFT {op:BinOp} {t yt:TypeId} {fs:Array Field} {x y:Operand} {neg:Bool} {ks:List EK} {o:Oper} {ρ:Operand→Value} {vs:List AV} {v:AV}
  (ho:o.op=.binOp op t x y yt) (hop:op=if neg then .neq else .eql) (hu:P.underlying t=some (.struct fs)) (hf:zPj P t fs=some ks)
  (hl:vs.length=[x,y].length) (hr:∀ i,VRel φ σ (vs.getD i .top) (([x,y].map ρ).getD i undef)) (hd:z1W (.eqs neg ks) vs=some v) :
  ∃ c,(execOp ρ o).run P w=.ok (.value c) w∧VRel φ σ v c:=by
 obtain ⟨u,v',rfl,h1,h2⟩:=z1C hl hr
 unfold zPj at hf
 split at hf
 rotate_left
 ·cases hf
 rename_i hc
 simp only [lAQ,lC5] at hc
 cases u<;>try (simp only [z1W] at hd;cases hd;done)
 cases v'<;>try (simp only [z1W] at hd;cases hd;done)
 rename_i us vs
 simp only [z1W] at hd
 rw [lC8] at hd
 obtain ⟨b,hq,rfl⟩:=hd
 generalize hcx:ρ x=cx at h1
 generalize hcy:ρ y=cy at h2
 cases h1 with
 | agg _ xs l1 r1=>cases h2 with
  | agg _ ys l2 r2 =>
   have hfs:P.fieldsOf t=fs:=by simp [Program.fieldsOf,hu]
   have e1:(Op.equalIn 10000 t (.agg xs) (.agg ys)).run P w=.ok b w:=by
    rw [show (10000:Nat)=9998+1+1 from rfl,run_equalIn_struct w (9998+1) t xs ys (by rw [hfs];exact hu) hc.1,hfs]
    exact zCG fs.toList ks 0 us vs b hf l1 l2 r1 r2 hq
   have g:=run_eqGuard_agg (P:=P) w op t x y xs ys hc.2
   refine ⟨.bool (if neg then !b else b),?_,.bool _⟩
   subst hop
   cases neg
   ·have e2:=run_eql_struct (P:=P) w t xs ys
    rw [e1] at e2
    simp only [execOp,ho,lAV,if_false,hcx,hcy] at g ⊢;simp [g,e2]
   ·have e2:=run_neq_struct (P:=P) w t xs ys
    rw [e1] at e2
    simp only [execOp,ho,if_true,hcx,hcy] at g ⊢;simp [g,e2]
theorem zBL {x:Operand} {o:Oper} {ρ:Operand→Value} {u v:AV} (ho:o.op=.nilCheck x) (hx:VRel φ σ u (ρ x)) (hd:z1W .nilCheck [u]=some v) :
  ∃ c,(execOp ρ o).run P w=.ok (.value c) w∧VRel φ σ v c:=by
 refine ⟨ρ x,?_,?_⟩
 ·simp only [execOp,ho]
  simp only [z1W] at hd
  generalize ρ x=c at *
  cases hx<;>simp_all
  rename_i fn _ _ _ _ _ _ _ _
  cases fn<;>simp_all
 ·simp only [z1W] at hd
  split at hd<;>first | (injection hd with hd;subst hd;exact hx) | cases hd
theorem z6j (ρ:Operand→Value) (lo hi:Option Operand):(lo.toList++hi.toList).map ρ=(lo.map ρ).toList++(hi.map ρ).toList:=by
 cases lo<;>cases hi<;>rfl
theorem zPx {o:Oper} {d:DOp} {xs:List Operand} {ρ:Operand→Value} {vs:List AV} {v:AV} (hc:cD P o=some (d,xs))
    (hl:vs.length=xs.length) (hr:∀ i,VRel φ σ (vs.getD i .top) ((xs.map ρ).getD i undef)) (hd:z1W d vs=some v) :
    ∃ c,(execOp ρ o).run P w=.ok (.value c) w∧VRel φ σ v c:=by
  unfold cD at hc
  split at hc
  · rename_i x ho
    injection hc with hc;injection hc with h1 h2;subst h1;subst h2
    obtain ⟨u,rfl,hu⟩:=z0b hl hr
    simp only [z1W] at hd;injection hd with hd;subst hd
    exact ⟨ρ x,by simp [execOp,ho],hu⟩
  · rename_i x ho
    injection hc with hc;injection hc with h1 h2;subst h1;subst h2
    obtain ⟨u,rfl,hu⟩:=z0b hl hr
    simp only [z1W] at hd;injection hd with hd;subst hd
    exact ⟨ρ x,by simp [execOp,ho],hu⟩
  · rename_i c a b ho
    injection hc with hc;injection hc with h1 h2;subst h1;subst h2
    obtain ⟨u,v',t,rfl,h1,h2,h3⟩:=zFW hl hr
    cases u<;>simp only [z1W] at hd<;>try (cases hd;done)
    rename_i bb
    injection hd with hd;subst hd
    generalize hcc:ρ c=cc at h1
    cases h1
    refine ⟨if bb then ρ a else ρ b,by simp [execOp,ho,hcc,asBool],?_⟩
    cases bb<;>assumption
  · rename_i t parts ho
    split at hc
    · rename_i fields zs hu hz
      split at hc
      · rename_i hall
        split at hc
        · rename_i ps hp
          injection hc with hc;injection hc with h1 h2;subst h1;subst h2
          obtain ⟨c,h1,h2⟩:=zNC (P:=P) (w:=w) (φ:=φ) (σ:=σ) (parts:=parts.toList.map fun x=>(x.1,ρ x.2)) (vs:=vs) hu hz
            (by rw [lB0];exact hp) hall (by simpa using hl) (fun i=>by have:=hr i;rw [lB0] at this ⊢;exact this) hd
          refine ⟨c,?_,h2⟩
          have e:(List.map (fun x=>(x.fst,ρ x.snd)) parts.toList).toArray=parts.map fun x=>(x.fst,ρ x.snd):=by rw [←lDP]
          rw [e] at h1
          simp [execOp,ho,h1]
        · cases hc
      · cases hc
    · rename_i len e zs hu hz
      split at hc
      · rename_i sz hs
        injection hc with hc;injection hc with h1 h2;subst h1;subst h2
        obtain ⟨c,h1,h2⟩:=zFf (P:=P) (w:=w) (φ:=φ) (σ:=σ) (parts:=parts.toList.map fun x=>(x.1,ρ x.2)) (vs:=vs) hu hz hs
          (by simpa using hl) (fun i=>by have:=hr i;rw [lB0] at this ⊢;exact this) (by rw [lB0];exact hd)
        refine ⟨c,?_,h2⟩
        have e':(List.map (fun x=>(x.fst,ρ x.snd)) parts.toList).toArray=parts.map fun x=>(x.fst,ρ x.snd):=by rw [←lDP]
        rw [e'] at h1
        simp [execOp,ho,h1]
      · cases hc
    · cases hc
  · rename_i x ho
    injection hc with hc;injection hc with h1 h2;subst h1;subst h2
    obtain ⟨u,rfl,hu⟩:=z0b hl hr
    exact zBL ho hu hd
  · rename_i op t x y yt ho
    split at hc
    case h_15 =>
      injection hc with hc;injection hc with h1 h2;subst h1;subst h2
      obtain ⟨u,v',rfl,h1,h2⟩:=z1C hl hr
      simp only [z1W] at hd
      obtain ⟨r,e1,e2⟩:=zPq (P:=P) (w:=w) (t:=t) hd h1 h2
      refine ⟨r,?_,e2⟩
      have g:=fun op=>zAs (P:=P) (w:=w) (op:=op) (t:=t) (x:=x) (y:=y) (c:=ρ x) (d:=ρ y)
        (by rintro ⟨q,_⟩;rw [q] at h1;rcases zCL hd with ⟨k,n,rfl⟩ | ⟨s,rfl⟩<;>cases h1)
        (by rintro a b ⟨q,_⟩;rw [q] at h1;rcases zCL hd with ⟨k,n,rfl⟩ | ⟨s,rfl⟩<;>cases h1)
      simp [execOp,ho,g,e1]
    all_goals
      rename_i hu
      first
        | (injection hc with hc;injection hc with h1 h2;subst h1;subst h2
           exact zMh ho rfl hu rfl hl hr hd)
        | (rw [lC8] at hc
           obtain ⟨ks,hk,hc⟩:=hc
           injection hc with h1 h2;subst h1;subst h2
           first | exact zFT (neg:=false) ho rfl hu hk hl hr hd | exact zFT (neg:=true) ho rfl hu hk hl hr hd)
  · rename_i op t x ho
    injection hc with hc;injection hc with h1 h2;subst h1;subst h2
    obtain ⟨u,rfl,hu⟩:=z0b hl hr
    simp only [z1W] at hd
    obtain ⟨r,e1,e2⟩:=zSD (P:=P) (w:=w) hd hu
    exact ⟨r,by simp [execOp,ho,e1],e2⟩
  · rename_i s t x ho
    split at hc
    · rename_i k' k h1 h2
      injection hc with hc;injection hc with h3 h4;subst h3;subst h4
      obtain ⟨u,rfl,hu⟩:=z0b hl hr
      cases u<;>simp only [z1W] at hd<;>try (cases hd;done)
      injection hd with hd;subst hd
      generalize hxx:ρ x=xx at hu
      cases hu
      exact ⟨_,by simp [execOp,ho,hxx,convert,z0C h1,z0C h2,Conv.intToInt],.int _ _⟩
    · rename_i h1 h2
      injection hc with hc;injection hc with h3 h4;subst h3;subst h4
      obtain ⟨u,rfl,hu⟩:=z0b hl hr
      cases u<;>simp only [z1W] at hd<;>try (cases hd;done)
      injection hd with hd;subst hd
      generalize hxx:ρ x=xx at hu
      cases hu with
      | str _ b hb=>exact ⟨_,by simp [execOp,ho,hxx,convert,z0C h1,z0C h2],.str _ _ hb⟩
    · cases hc
  · rename_i t x ho
    split at hc
    · cases hc
    · cases hc
    · rename_i td h0 h1
      injection hc with hc;injection hc with h3 h4;subst h3;subst h4
      obtain ⟨u,rfl,hu⟩:=z0b hl hr
      simp only [z1W] at hd;injection hd with hd;subst hd
      refine ⟨.iface t (ρ x),?_,.iface _ _ _ hu⟩
      simp only [execOp,ho,Instr.makeInterface,Sem.run_bind,z0C h1,Result.andThen_ok]
      cases td<;>first | rfl | (rename_i ms;exact absurd rfl (h0 ms))
  · rename_i fn first captured ho
    injection hc with hc;injection hc with h3 h4;subst h3;subst h4
    simp only [z1W] at hd;injection hd with hd;subst hd
    simp only [lAH,lC7] at hl
    refine ⟨.func fn (first.map ρ) (captured.map ρ),by simp [execOp,ho,Instr.makeFunc],.clo _ _ _ _ _ (by simp;omega) (by simp;omega) (fun i=>?_) (fun i=>?_)⟩
    · by_cases hi:i<first.size
      · have:=hr i
        rw [lAB,lD6,if_pos hi,←lAB]
        rw [show (first.map ρ).getD i undef=((first.toList++captured.toList).map ρ).getD i undef by
          simp [lAB,lAR,hi,lAN]]
        exact this
      · rw [lAB,lD6,if_neg hi];exact .top _
    · have:=hr (first.size+i)
      rw [lAB,lDA,←lAB]
      rw [show (captured.map ρ).getD i undef=((first.toList++captured.toList).map ρ).getD (first.size+i) undef by
          simp [lAB,lAR,lAJ]]
      exact this
  · rename_i t x lo hi mx ho
    split at hc
    · rename_i hu
      injection hc with hc;injection hc with h3 h4;subst h3;subst h4
      cases vs with
      | nil=>simp at hl
      | cons u vs =>
        have h0:VRel φ σ u (ρ x):=by simpa using hr 0
        have hr':∀ i,VRel φ σ (vs.getD i .top) (((lo.map ρ).toList++(hi.map ρ).toList).getD i undef):=by
          intro i
          have:=hr (i+1)
          rw [lA6,z6j] at this
          simpa using this
        cases u<;>simp only [z1W] at hd<;>try (cases hd;done)
        obtain ⟨c,h1,h2⟩:=zEA (P:=P) (w:=w) (lo:=lo.isSome) (hi:=hi.isSome) (cl:=lo.map ρ) (ch:=hi.map ρ) hu (by simp only [z1W];exact hd) h0 (by simp) (by simp) hr'
        exact ⟨c,by simp [execOp,ho,h1],h2⟩
    · rename_i e hu
      split at hc
      · rename_i z hz
        injection hc with hc;injection hc with h3 h4;subst h3;subst h4
        cases vs with
        | nil=>simp at hl
        | cons u vs =>
          have h0:VRel φ σ u (ρ x):=by simpa using hr 0
          have hr':∀ i,VRel φ σ (vs.getD i .top) (((lo.map ρ).toList++(hi.map ρ).toList).getD i undef):=by
            intro i
            have:=hr (i+1)
            rw [lA6,z6j] at this
            simpa using this
          simp only [z1W] at hd
          obtain ⟨c,h1,h2⟩:=zLM (P:=P) (w:=w) (cl:=lo.map ρ) (ch:=hi.map ρ) hu hz hd h0 (by simp) (by simp) hr'
          exact ⟨c,by simp [execOp,ho,h1],h2⟩
      · cases hc
    · rename_i m e hu
      split at hc
      · rename_i h z hz
        injection hc with hc;injection hc with h3 h4;subst h3;subst h4
        cases vs with
        | nil=>simp at hl
        | cons u vs =>
          have h0:VRel φ σ u (ρ x):=by simpa using hr 0
          have hr':∀ i,VRel φ σ (vs.getD i .top) (((lo.map ρ).toList++[ρ h,ρ m]).getD i undef):=by
            intro i
            have:=hr (i+1)
            rw [lA6,lBP] at this
            cases lo<;>simpa using this
          simp only [z1W] at hd
          obtain ⟨c,h1,h2⟩:=zJa (P:=P) (w:=w) (cl:=lo.map ρ) hu hz hd h0 (by simp) hr'
          exact ⟨c,by simp [execOp,ho,h1],h2⟩
      · cases hc
    · cases hc
  · rename_i s x j ho
    split at hc
    · rename_i fields hu
      split at hc
      · rename_i f hf
        split at hc
        · rename_i z hz
          split at hc
          · cases hc
          · rename_i hz0
            injection hc with hc;injection hc with h3 h4;subst h3;subst h4
            obtain ⟨u,rfl,hx⟩:=z0b hl hr
            obtain ⟨c,h1,h2⟩:=zDQ (w:=w) hu hf hz hz0 hd hx
            exact ⟨c,by simp [execOp,ho,h1],h2⟩
        · cases hc
      · cases hc
    · cases hc
  · rename_i s x j ho
    split at hc
    · rename_i fields hu
      split at hc
      · rename_i f hf
        split at hc
        · rename_i n hn
          injection hc with hc;injection hc with h3 h4;subst h3;subst h4
          obtain ⟨u,rfl,hx⟩:=z0b hl hr
          cases u<;>simp only [z1W] at hd<;>try (cases hd;done)
          obtain ⟨c,h1,h2⟩:=zMe (w:=w) hu hf hn hd hx
          exact ⟨c,by simp [execOp,ho,h1],h2⟩
        · cases hc
      · cases hc
    · cases hc
  · rename_i t x i ho
    split at hc
    · rename_i e hu
      split at hc
      · rename_i z hz
        injection hc with hc;injection hc with h3 h4;subst h3;subst h4
        obtain ⟨u,v',rfl,h1,h2⟩:=z1C hl hr
        obtain ⟨c,h3,h4⟩:=zGY (w:=w) hu hz hd h1 h2
        exact ⟨c,by simp [execOp,ho,h3],h4⟩
      · cases hc
    · rename_i n e hu
      split at hc
      · rename_i z hz
        injection hc with hc;injection hc with h3 h4;subst h3;subst h4
        obtain ⟨u,v',rfl,h1,h2⟩:=z1C hl hr
        obtain ⟨c,h3,h4⟩:=zBM (w:=w) hu hz hd h1 h2
        exact ⟨c,by simp [execOp,ho,h3],h4⟩
      · cases hc
    · cases hc
  · rename_i t x i ho
    split at hc
    · rename_i hu
      injection hc with hc;injection hc with h3 h4;subst h3;subst h4
      obtain ⟨u,v',rfl,h1,h2⟩:=z1C hl hr
      obtain ⟨c,h3,h4⟩:=zJz (w:=w) hu hd h1 h2
      exact ⟨c,by simp [execOp,ho,h3],h4⟩
    · rename_i n e hu
      split at hc
      · rename_i z hz hs
        injection hc with hc;injection hc with h3 h4;subst h3;subst h4
        obtain ⟨u,v',rfl,h1,h2⟩:=z1C hl hr
        obtain ⟨c,h3,h4⟩:=zCB (w:=w) hu hz (by simpa using hs) hd h1 h2
        exact ⟨c,by simp [execOp,ho,h3],h4⟩
      · rename_i z z' hz hs
        split at hc
        · rename_i hzz
          subst hzz
          injection hc with hc;injection hc with h3 h4;subst h3;subst h4
          obtain ⟨u,v',rfl,h1,h2⟩:=z1C hl hr
          obtain ⟨c,h3,h4⟩:=zCB (w:=w) hu hz (by simpa using hs) hd h1 h2
          exact ⟨c,by simp [execOp,ho,h3],h4⟩
        · cases hc
      · cases hc
    · cases hc
  · rename_i x i ho
    injection hc with hc;injection hc with h3 h4;subst h3;subst h4
    obtain ⟨u,rfl,hx⟩:=z0b hl hr
    cases u<;>simp only [z1W] at hd<;>try (cases hd;done)
    rename_i us
    generalize hxx:ρ x=xx at hx
    cases hx with
    | tuple _ ws hlen hrr =>
      have hlt:i<us.length:=by
        rcases lBB i us.length with h | h
        · exact h
        · simp [h] at hd
      have hlt':i<ws.size:=hlen ▸ hlt
      have:=hrr i
      rw [lAB,hd] at this
      exact ⟨ws.getD i undef,by simp [execOp,ho,hxx,Instr.extract,Array.getD,hlt'],this⟩
  · rename_i x xt t ok ho
    split at hc
    · cases hc
    · cases hc
    · cases hc
    · rename_i oz td z hn hu hz
      split at hc
      · rename_i zv hzv
        injection hc with hc;injection hc with h3 h4;subst h3;subst h4
        obtain ⟨u,rfl,hx⟩:=z0b hl hr
        have hzero:(zeroValue t).run P w=.ok z w:=by
          cases hi:P.info? t with
          | none=>simp [hi] at hz
          | some i=>simp [hi] at hz;simp [zeroValue,typeInfo,hi,hz]
        have hzr:VRel φ σ zv z:=z9N hzv
        have tup:∀ (p:AV) (q:Value) (b:Bool),VRel φ σ p q→VRel φ σ (.tuple [p,.bool b]) (.tuple #[q,.bool b]):=by
          intro p q b h
          refine .tuple _ _ rfl fun i=>?_
          match i with
          | 0=>simpa using h
          | 1=>simpa using VRel.bool b
          | n+2=>simpa using VRel.top _
        have hni:∀ ms,td≠.interface ms:=fun ms e=>hn ms e
        cases u<;>simp only [z1W] at hd<;>try (cases hd;done)
        · generalize hxx:ρ x=xx at hx
          cases hx
          split at hd
          · rename_i hok
            injection hd with hd;subst hd
            refine ⟨.tuple #[z,.bool false],?_,tup _ _ _ hzr⟩
            cases td<;>first | (exact absurd rfl (hni _)) | (simp [execOp,ho,hxx,Instr.typeAssert,z0C hu,hok,hzero])
          · cases hd
        · rename_i t' v'
          generalize hxx:ρ x=xx at hx
          cases hx with
          | iface _ _ c hv =>
            split at hd
            · rename_i he
              subst he
              injection hd with hd;subst hd
              refine ⟨if ok then .tuple #[c,.bool true] else c,?_,?_⟩
              · cases td<;>first | (exact absurd rfl (hni _)) | (cases ok<;>simp [execOp,ho,hxx,Instr.typeAssert,z0C hu])
              · cases ok
                · exact hv
                · exact tup _ _ _ hv
            · rename_i he
              split at hd
              · rename_i hok
                injection hd with hd;subst hd
                refine ⟨.tuple #[z,.bool false],?_,tup _ _ _ hzr⟩
                cases td<;>first | (exact absurd rfl (hni _)) | (simp [execOp,ho,hxx,Instr.typeAssert,z0C hu,hok,hzero,he])
              · cases hd
      · cases hc
  · rename_i args argTypes ho
    split at hc
    · rename_i x t hx ht
      have hargs:args = #[x]:=by rw [←lBS];exact hx
      subst hargs
      split at hc
      · rename_i hu
        injection hc with hc;injection hc with h3 h4;subst h3;subst h4
        obtain ⟨u,rfl,hxr⟩:=z0b hl hr
        cases u<;>simp only [z1W] at hd<;>try (cases hd;done)
        injection hd with hd;subst hd
        generalize hxx:ρ x=xx at hxr
        cases hxr with
        | str _ b hb=>exact ⟨.int .i64 b.size,by simp [execOp,ho,resolve,invoke,builtin,Builtin.len_,ht,hxx,z0C hu,goInt],by rw [zCm hb];exact .int _ _⟩
      · rename_i e hu
        injection hc with hc;injection hc with h3 h4;subst h3;subst h4
        obtain ⟨u,rfl,hxr⟩:=z0b hl hr
        simp only [z1W] at hd
        generalize hxx:ρ x=xx at hxr
        split at hd
        · injection hd with hd;subst hd
          cases hxr;exact ⟨.int .i64 0,by simp [execOp,ho,resolve,invoke,builtin,Builtin.len_,ht,hxx,z0C hu,goInt],.int _ _⟩
        · injection hd with hd;subst hd
          cases hxr;exact ⟨_,by simp [execOp,ho,resolve,invoke,builtin,Builtin.len_,ht,hxx,z0C hu,goInt],.int _ _⟩
        · injection hd with hd;subst hd
          cases hxr with
          | list _ _ b o n cap f hsz hx hn h r=>subst hx;exact ⟨_,by simp [execOp,ho,resolve,invoke,builtin,Builtin.len_,ht,hxx,z0C hu,goInt],.int _ _⟩
          | elist _ a=>exact ⟨_,by simp [execOp,ho,resolve,invoke,builtin,Builtin.len_,ht,hxx,z0C hu,goInt],.int _ _⟩
        · cases hd
      · rename_i n e hu
        injection hc with hc;injection hc with h3 h4;subst h3;subst h4
        obtain ⟨u,rfl,hxr⟩:=z0b hl hr
        simp only [z1W] at hd
        injection hd with hd;subst hd
        exact ⟨.int .i64 n,by simp [execOp,ho,resolve,invoke,builtin,Builtin.len_,ht,z0C hu,goInt],.int _ _⟩
      · cases hc
    · cases hc
  · rename_i args argTypes ho
    split at hc
    · rename_i x y hx
      have hargs:args = #[x,y]:=by rw [←lBS];exact hx
      subst hargs
      injection hc with hc;injection hc with h3 h4;subst h3;subst h4
      obtain ⟨u,v',rfl,h1,h2⟩:=z1C hl hr
      cases u<;>simp only [z1W] at hd<;>try (cases hd;done)
      cases v'<;>simp only at hd<;>try (cases hd;done)
      injection hd with hd;subst hd
      generalize hxx:ρ x=xx at h1
      generalize hyy:ρ y=yy at h2
      cases h1;cases h2
      exact ⟨_,by simp [execOp,ho,resolve,invoke,builtin,Builtin.min_,Builtin.min2,hxx,hyy],.int _ _⟩
    · cases hc
  · rename_i args argTypes ho
    split at hc
    · rename_i x y hx
      have hargs:args = #[x,y]:=by rw [←lBS];exact hx
      subst hargs
      injection hc with hc;injection hc with h3 h4;subst h3;subst h4
      obtain ⟨u,v',rfl,h1,h2⟩:=z1C hl hr
      cases u<;>simp only [z1W] at hd<;>try (cases hd;done)
      cases v'<;>simp only at hd<;>try (cases hd;done)
      injection hd with hd;subst hd
      generalize hxx:ρ x=xx at h1
      generalize hyy:ρ y=yy at h2
      cases h1;cases h2
      exact ⟨_,by simp [execOp,ho,resolve,invoke,builtin,Builtin.max_,Builtin.max2,hxx,hyy],.int _ _⟩
    · cases hc
  · cases hc
end Go.Ab
namespace Go.Ab
variable {P:Program} {φ:Phi} {σ:Sig} {H:z0B} {w:World}
def put (H:z0B) (r:Nat) (b:Blk):z0B:=if r<H.length then H.set r b else H++[b]
def z8t (H:z0B) (r:Nat):Prop:=r=H.length∨H[r]? =some Blk.resv
theorem z8e {r:Nat} {b:Blk} (h:z8t H r) (i:Nat):(put H r b)[i]? =if i=r then some b else H[i]?:=by
 unfold put
 rcases h with h | h
 ·subst h
  rw [if_neg (Nat.lt_irrefl _)]
  by_cases hi:i=H.length
  ·subst hi;simp
  ·rw [if_neg hi]
   rcases lBB i H.length with hl | hl
   ·rw [lAN hl]
   ·rw [lAJ hl,lBG (by simp;omega),lBG (by omega)]
 ·have hl:r<H.length:=by
   rcases lBB r H.length with hl | hl
   ·exact hl
   ·simp [hl] at h
  rw [if_pos hl,lA7]
  by_cases hi:r=i
  ·subst hi;simp [hl]
  ·rw [if_neg hi,if_neg (fun e=>hi e.symm)]
theorem z4n {r:Nat} {b:Blk} (h:z8t H r):H.length≤(put H r b).length∧r<(put H r b).length:=by
 unfold put
 rcases h with h | h
 ·subst h;simp
 ·have hl:r<H.length:=by
   rcases lBB r H.length with hl | hl
   ·exact hl
   ·simp [hl] at h
  simp [hl]
theorem z8t.phi {r:Nat} (h:z8t H r) (hr:HRel φ σ H w):φ r=none:=by
 rcases h with h | h
 ·cases hp:φ r with
  | none=>rfl
  | some L=>have:=hr.dom _ _ hp;omega
 ·exact hr.resv _ h
def z2B (φ:Phi) (r:Nat) (L:Loc):Phi:=fun i=>if i=r then some L else φ i
theorem z4p {r:Nat} {L:Loc} (h:φ r=none):zNT φ (z2B φ r L):=by
 intro i M hi
 unfold z2B
 by_cases e:i=r
 ·subst e;rw [h] at hi;cases hi
 ·rw [if_neg e];exact hi
theorem zKj.mono {φ':Phi} {σ':Sig} {w':World} {L:Loc} {b:Blk} (hp:zNT φ φ') (hs:zNS σ σ') (hn:∀ j,L.o≤j→b.live=true→σ L.b j=none→σ' L.b j=none)
  (hw:w'.heap[L.b]? =w.heap[L.b]?) (h:zKj φ σ w L b):zKj φ' σ' w' L b:=by
 cases b with
 | dead=>trivial
 | resv=>trivial
 | cells cs =>
  obtain ⟨arr,t,fr,h1,h2,h3,h4,h5,h6⟩:=h
  exact ⟨arr,t,fr,hw ▸ h1,h2,h3,h4,fun i hi=>(h5 i hi).mono hp hs,fun j hj=>hn j hj rfl (h6 j hj)⟩
 | map es clock =>
  obtain ⟨ces,h1,h2,h3⟩:=h
  exact ⟨ces,hw ▸ h1,h2,fun i hi hi'=>⟨(h3 i hi hi').1.mono hp hs,(h3 i hi hi').2.1.mono hp hs,(h3 i hi hi').2.2⟩⟩
 | iter m since seen last =>
  obtain ⟨h0,cm,h1,h2⟩:=h
  refine ⟨h0,cm,hw ▸ h1,?_⟩
  rcases h2 with h2 | ⟨id,b,M,e1,e2,e3,e4⟩
  ·exact .inl h2
  ·exact .inr ⟨id,b,M,e1,e2,hp _ _ e3,e4⟩
theorem z4Z {r:Nat} {o:Obj} {e:Nat} {blk:Blk} (hr:HRel φ σ H w) (hf:z8t H r)
  (hb:zKj (z2B φ r ⟨w.heap.size,0,e⟩) σ (w.alloc o) ⟨w.heap.size,0,e⟩ blk) (hlv:blk.live=true) :
  Step φ σ H w (z2B φ r ⟨w.heap.size,0,e⟩) σ (put H r blk) (w.alloc o):=by
 have hn:=hf.phi hr
 have hext:=z4p (L:=⟨w.heap.size,0,e⟩) hn
 have hold:∀ k,k<w.heap.size→(w.alloc o).heap[k]? =w.heap[k]?:=fun k hk=>Go.RowKit.Below.heap_alloc w o k hk
 have hget:∀ i L,z2B φ r ⟨w.heap.size,0,e⟩ i=some L→(i=r∧L=⟨w.heap.size,0,e⟩)∨(i≠r∧φ i=some L):=by
  intro i L h
  unfold z2B at h
  by_cases hi:i=r
  ·rw [if_pos hi] at h;injection h with h;exact .inl ⟨hi,h.symm⟩
  ·rw [if_neg hi] at h;exact .inr ⟨hi,h⟩
 refine ⟨hext,.refl _,rfl,rfl,rfl,by simp,fun b hb _=>hold b hb,?_,?_⟩
 ·rintro b ⟨id,bl,L,h1,h2,h3,rfl⟩
  rcases hget _ _ h3 with ⟨rfl,rfl⟩ | ⟨hne,h3⟩
  ·exact .inl (lAL _)
  ·rw [z8e hf,if_neg hne] at h1
   exact .inr ⟨id,bl,L,h1,h2,h3,rfl⟩
 ·refine ⟨?_,?_,?_,?_,?_,?_⟩
  ·intro i L h
   rcases hget _ _ h with ⟨rfl,rfl⟩ | ⟨_,h⟩
   ·exact (z4n hf).2
   ·exact lD7 (hr.dom _ _ h) (z4n hf).1
  ·intro i L h
   rcases hget _ _ h with ⟨rfl,rfl⟩ | ⟨_,h⟩
   ·simp
   ·have:=hr.bnd _ _ h;simp;omega
  ·intro i b h hl
   rw [z8e hf] at h
   by_cases hi:i=r
   ·rw [if_pos hi] at h;injection h with h;subst h;subst hi
    exact ⟨_,by simp [z2B],hb⟩
   ·rw [if_neg hi] at h
    obtain ⟨L,h1,h2⟩:=hr.blk i b h hl
    exact ⟨L,hext _ _ h1,h2.mono hext (.refl _) (fun _ _ _ h=>h) (hold _ (hr.bnd _ _ h1))⟩
  ·intro i j b c L M h1 h2 h3 h4 h5 h6 h7
   rw [z8e hf] at h1 h3
   rcases hget _ _ h5 with ⟨e1,e2⟩ | ⟨hi,h8⟩<;>rcases hget _ _ h6 with ⟨e3,e4⟩ | ⟨hj,h9⟩
   ·rw [e1,e3]
   ·have:=hr.bnd _ _ h9;rw [e2] at h7;simp only at h7;omega
   ·have:=hr.bnd _ _ h8;rw [e4] at h7;simp only at h7;omega
   ·rw [if_neg hi] at h1;rw [if_neg hj] at h3
    exact hr.inj i j b c L M h1 h2 h3 h4 h8 h9 h7
  ·intro b j v h
   have:=hr.sig _ _ _ h
   rw [World.cell?_alloc_lt _ _ _ (World.block_lt_of_cell? w _ this)]
   exact this
  ·intro i h
   rw [z8e hf] at h
   by_cases hi:i=r
   ·rw [if_pos hi] at h;injection h with h;subst h;simp [Blk.live] at hlv
   ·rw [if_neg hi] at h
    simp only [z2B,if_neg hi];exact hr.resv _ h
def World.setObj_ (w:World) (b:Nat) (o:Obj):World:={ w with heap:=w.heap.setIfInBounds b o }
theorem z2L (w:World) (b:Nat) (o:Obj) (k:Nat):(World.setObj_ w b o).heap[k]? =if b=k then (if k<w.heap.size then some o else none) else w.heap[k]?:=by
 unfold World.setObj_
 simp only [lCR]
 by_cases e:b=k
 ·subst e;simp
 ·simp [e]
theorem z1x {id:Nat} {b:Blk} (i:Nat) (h:id<H.length):(H.set id b)[i]? =if i=id then some b else H[i]?:=by
 rw [lA7]
 by_cases e:id=i
 ·subst e;simp [h]
 ·rw [if_neg e,if_neg (fun x=>e x.symm)]
theorem z9P {id:Nat} {blk blk':Blk} {L:Loc} {o:Obj} (hr:HRel φ σ H w) (hg:H[id]? =some blk) (hl:blk.live=true) (hp:φ id=some L)
  (hb:zKj φ σ (World.setObj_ w L.b o) L blk') (hl':blk'.live=true)
  (hsig:∀ j v,σ L.b j=some v→(World.setObj_ w L.b o).cell? (at_ L.b j)=some v) :
  Step φ σ H w φ σ (H.set id blk') (World.setObj_ w L.b o):=by
 have hid:id<H.length:=by
  rcases lBB id H.length with h | h
  ·exact h
  ·simp [h] at hg
 have hold:∀ k,k≠L.b→(World.setObj_ w L.b o).heap[k]? =w.heap[k]?:=fun k hk=>by rw [z2L,if_neg (fun e=>hk e.symm)]
 refine ⟨.refl _,.refl _,rfl,rfl,rfl,by simp [World.setObj_],fun b _ hno=>hold b (fun e=>hno ⟨id,blk,L,hg,hl,hp,e.symm⟩),?_,?_⟩
 ·rintro b ⟨i,bl,M,h1,h2,h3,rfl⟩
  rw [z1x _ hid] at h1
  by_cases e:i=id
  ·subst e;exact .inr ⟨i,blk,M,hg,hl,h3,rfl⟩
  ·rw [if_neg e] at h1;exact .inr ⟨i,bl,M,h1,h2,h3,rfl⟩
 ·refine ⟨?_,?_,?_,?_,?_,?_⟩
  ·intro i M h;simpa using hr.dom i M h
  ·intro i M h;simpa [World.setObj_] using hr.bnd i M h
  ·intro i b h h2
   rw [z1x _ hid] at h
   by_cases e:i=id
   ·rw [if_pos e] at h;injection h with h;subst h;subst e;exact ⟨L,hp,hb⟩
   ·rw [if_neg e] at h
    obtain ⟨M,h3,h4⟩:=hr.blk i b h h2
    have:M.b≠L.b:=fun eb=>e (hr.inj i id b blk M L h h2 hg hl h3 hp eb)
    exact ⟨M,h3,h4.mono (.refl _) (.refl _) (fun _ _ _ h=>h) (hold _ this)⟩
  ·intro i j b c M N h1 h2 h3 h4 h5 h6 h7
   rw [z1x _ hid] at h1 h3
   by_cases e:i=id<;>by_cases f:j=id
   ·rw [e,f]
   ·subst e;rw [if_neg f] at h3;exact hr.inj i j blk c M N hg hl h3 h4 h5 h6 h7
   ·subst f;rw [if_neg e] at h1;exact hr.inj i j b blk M N h1 h2 hg hl h5 h6 h7
   ·rw [if_neg e] at h1;rw [if_neg f] at h3;exact hr.inj i j b c M N h1 h2 h3 h4 h5 h6 h7
  ·intro b j v h
   by_cases e:b=L.b
   ·subst e;exact hsig j v h
   ·have:=hr.sig _ _ _ h
    rw [World.cell?_of_block (w:=w) (a:=at_ b j) (hold b e)];exact this
  ·intro i h
   rw [z1x _ hid] at h
   by_cases e:i=id
   ·rw [if_pos e] at h;injection h with h;subst h;simp [Blk.live] at hl'
   ·rw [if_neg e] at h;exact hr.resv _ h
end Go.Ab
namespace Go.Ab
variable {P:Program} {φ:Phi} {σ:Sig} {H:z0B} {w:World}
theorem z1h {b o:Nat} {arr:Array Value} {t:TypeId} {fr:Nat × Nat} (h:w.heap[b]? =some (.cells arr t fr)):w.cell? (at_ b o)=arr[o]?:=by
 simp [World.cell?,at_,h]
theorem z8A {b o:Nat} {arr:Array Value} {t:TypeId} {fr:Nat × Nat} (h:w.heap[b]? =some (.cells arr t fr)) (hf:¬ (fr.1≤o∧o<fr.2)):w.frozen? (at_ b o)=false:=by
 simp only [World.frozen?,at_,h]
 cases fr with
 | mk lo hi =>
  show (decide (lo≤o)&&decide (o<hi))=false
  simp only at hf
  simp
  omega
def zLQ (arr:Array Value) (o:Nat):List Value→Array Value
 | []=>arr
 | v::vs=>zLQ (arr.setIfInBounds o v) (o+1) vs
theorem zEC (vs:List Value):∀ (arr:Array Value) (o:Nat),(zLQ arr o vs).size=arr.size:=by
 induction vs with
 | nil=>intro arr o;rfl
 | cons v vs ih=>intro arr o;simp [zLQ,ih]
theorem zHP (vs:List Value):∀ (arr:Array Value) (o i:Nat),o+vs.length≤arr.size →
  (zLQ arr o vs).getD i undef=if o≤i∧i<o+vs.length then vs.getD (i-o) undef else arr.getD i undef:=by
 induction vs with
 | nil=>intro arr o i h;simp [zLQ];intro h1 h2;omega
 | cons v vs ih =>
  intro arr o i h
  simp only [lBE] at h
  simp only [zLQ]
  rw [ih _ _ _ (by simp;omega)]
  simp only [lBE]
  by_cases c:o+1≤i∧i<o+1+vs.length
  ·rw [if_pos c,if_pos ⟨by omega,by omega⟩,show i-o=(i-(o+1))+1 by omega]
   simp
  ·rw [if_neg c]
   by_cases e:i=o
   ·subst e
    rw [if_pos ⟨by omega,by omega⟩]
    simp [lAR,show i<arr.size by omega]
   ·rw [if_neg (by omega)]
    simp [lAR,show o≠i by omega]
theorem zGD {b o:Nat} {arr:Array Value} {t:TypeId} {fr:Nat × Nat} {v:Value} (h:w.heap[b]? =some (.cells arr t fr)) :
  w.setCell (at_ b o) v=World.setObj_ w b (.cells (arr.setIfInBounds o v) t fr):=by
 have hb:b<w.heap.size:=by
  rcases lBB b w.heap.size with h' | h'
  ·exact h'
  ·simp [lCX h'] at h
 unfold World.setCell World.setObj_ at_
 congr 1
 apply Array.ext_getElem?
 intro i
 simp only [Array.getElem?_modify,lCR]
 by_cases e:b=i
 ·subst e
  have h2:w.heap[b]=.cells arr t fr:=by simpa [lBY hb] using h
  simp [h2,hb]
 ·simp [e]
theorem zAJ {b:Nat} {o:Obj} (h:w.heap[b]? =some o):World.setObj_ w b o=w:=by
 unfold World.setObj_
 congr 1
 apply Array.ext_getElem?
 intro i
 simp only [lCR]
 by_cases e:b=i
 ·subst e
  have hb:b<w.heap.size:=by
   rcases lBB b w.heap.size with h' | h'
   ·exact h'
   ·simp [lCX h'] at h
  have h2:w.heap[b]=o:=by simpa [lBY hb] using h
  simp [h2,hb]
 ·simp [e]
theorem zED {b:Nat} {o o':Obj}:World.setObj_ (World.setObj_ w b o) b o'=World.setObj_ w b o':=by
 unfold World.setObj_
 congr 1
 apply Array.ext_getElem?
 intro i
 simp only [lCR,Array.size_setIfInBounds]
 by_cases e:b=i
 ·subst e;simp
 ·simp [e]
theorem z7g {b o:Nat} {t:TypeId} {fr:Nat × Nat}:∀ (vs:List Value) (i:Nat) (arr:Array Value) (w:World),w.heap[b]? =some (.cells arr t fr) →
  o+i+vs.length≤arr.size→(∀ j,o+i≤j→j<o+i+vs.length→¬ (fr.1≤j∧j<fr.2))→(∀ v∈vs,v.oneCell'=true) →
  (storeCells (at_ b o) vs i).run P w=.ok () (World.setObj_ w b (.cells (zLQ arr (o+i) vs) t fr))
 | [],i,arr,w,h,_,_,_=>by simp [storeCells,zLQ,zAJ h]
 | v::vs,i,arr,w,h,hs,hf,h1=>by
  simp only [lBE] at hs hf
  have hlt:o+i<arr.size:=by omega
  have hst:(store ((at_ b o).add i) v).run P w=.ok () (World.setObj_ w b (.cells (arr.setIfInBounds (o+i) v) t fr)):=by
   rw [z4z,run_store P w _ v _ (h1 v (by simp)),z1h h,lBY hlt,z8A h (hf (o+i) (by omega) (by omega)),zGD h]
   simp
  have hb:b<w.heap.size:=by
   rcases lBB b w.heap.size with h' | h'
   ·exact h'
   ·simp [lCX h'] at h
  have ih:=z7g (fr:=fr) (b:=b) (o:=o) (t:=t) vs (i+1) (arr.setIfInBounds (o+i) v) (World.setObj_ w b (.cells (arr.setIfInBounds (o+i) v) t fr)) (by rw [z2L,if_pos rfl,if_pos hb])
   (by rw [Array.size_setIfInBounds];omega) (fun j hj hj'=>hf j (by omega) (by omega)) (fun x hx=>h1 x (by simp [hx]))
  rw [show o+(i+1)=o+i+1 by omega,zED] at ih
  simp only [storeCells,Sem.run_bind,hst,Result.andThen_ok,ih,zLQ]
theorem z8f {b o k:Nat} {f:Nat→Value} (h:∀ j,j<k→w.cell? (at_ b (o+j))=some (f j)) :
  (loadCells (at_ b o) k).run P w=.ok ((List.range k).map f).toArray w :=
 run_loadCells w (at_ b o) k f fun j hj=>by rw [z4z];exact h j hj
theorem z8d (k:Nat) (f:Nat→Value) (i:Nat):(((List.range k).map f).toArray).getD i undef=if i<k then f i else undef:=by
 simp only [lAR,lCP,lAM]
 by_cases h:i<k
 ·simp [h]
 ·rw [if_neg h,lBG (by simp;omega)];rfl
theorem zEy {t:TypeId} {n:Option Nat} {b o:Nat} {cs:List AV} {off:Nat} {v:AV} {f:Nat→Value} (ht:z4k P t=some n) (hd:z3L n cs off=some v)
  (hc:∀ i,i<cs.length→w.cell? (at_ b (o+i))=some (f i)) (hr:∀ i,i<cs.length→VRel φ σ (cs.getD i .top) (f i)) :
  ∃ c,(Instr.loadAt t (.pointer (some (at_ b (o+off))))).run P w=.ok c w∧VRel φ σ v c:=by
 obtain ⟨h1,h2⟩:=z8a (w:=w) ht
 cases n with
 | none =>
  simp only [z3L] at hd
  have hlt:off<cs.length:=by
   rcases lBB off cs.length with h | h
   ·exact h
   ·simp [h] at hd
  have:=hr off hlt
  rw [lAB,hd] at this
  exact ⟨f off,by simp [Instr.loadAt,Instr.sureAddr,loadVar,h1,hc off hlt],this⟩
 | some k =>
  simp only [z3L] at hd
  split at hd
  ·rename_i hle
   injection hd with hd;subst hd
   have h3:=z1P (w:=w) (h2 k rfl)
   have h4:=z8f (P:=P) (w:=w) (b:=b) (o:=o+off) (k:=k) (f:=fun j=>f (off+j)) fun j hj=>by
    rw [lBK];exact hc _ (by omega)
   refine ⟨_,by simp [Instr.loadAt,Instr.sureAddr,loadVar,h1,h3,h4];rfl,.agg _ _ (by simp;omega) fun i=>?_⟩
   rw [z1z,z8d]
   split
   ·exact hr _ (by omega)
   ·exact .top _
  ·cases hd
theorem zKP {b o:Nat} {cs:List AV} {f:Nat→Value} (hr:HRel φ σ H w) (h:∀ i,i<cs.length→σ b (o+i)=some (f i)) (i:Nat) (hi:i<cs.length) :
  w.cell? (at_ b (o+i))=some (f i):=hr.sig _ _ _ (h i hi)
def z0h (n:Option Nat) (x:AV) (H:z0B):Option AV :=
 match x with
 | .ptr id off=>match H[id]? with
  | some (.cells cs)=>z3L n cs off
  | _=>none
 | .cptr cs=>z3L n cs 0
 | _=>none
theorem z3r {id:Nat} {cs:List AV} {L:Loc} (hr:HRel φ σ H w) (hg:H[id]? =some (.cells cs)) (hp:φ id=some L):zKj φ σ w L (.cells cs):=by
 obtain ⟨M,h1,h2⟩:=hr.blk id _ hg rfl
 rw [hp] at h1;injection h1 with h1;subst h1
 exact h2
theorem zEK {t:TypeId} {n:Option Nat} {x v:AV} {c:Value} (ht:z4k P t=some n) (hr:HRel φ σ H w) (hx:VRel φ σ x c) (hd:z0h n x H=some v) :
  ∃ c',(Instr.loadAt t c).run P w=.ok c' w∧VRel φ σ v c':=by
 unfold z0h at hd
 split at hd
 ·rename_i id off
  split at hd
  ·rename_i cs hg
   cases hx with
   | ptr _ _ L hp =>
    obtain ⟨arr,t',fr,h1,h2,h3,h4,h5,h6⟩:=z3r hr hg hp
    refine zEy (f:=fun i=>arr.getD (L.o+i) undef) ht hd (fun i hi=>?_) h5
    rw [z1h h1,lBY (by omega)]
    simp [Array.getD,show L.o+i<arr.size by omega]
  ·cases hd
 ·rename_i cs
  cases hx with
  | cptr _ b o f h r=>exact zEy (off:=0) ht hd (fun i hi=>zKP hr h i hi) (fun i _=>r i)
 ·cases hd
end Go.Ab
namespace Go.Ab
variable {P:Program} {φ:Phi} {σ:Sig} {H:z0B} {w:World}
def AV.scalar:AV→Bool
 | .top | .agg _ | .tuple _=>false
 | _=>true
theorem zJb {v:AV} {c:Value} (h:v.scalar=true) (hr:VRel φ σ v c):c.oneCell'=true:=by
 cases hr<;>first | rfl | simp [AV.scalar] at h
theorem getD_some {arr:Array Value} {j:Nat} (h:j<arr.size):arr[j]? =some (arr.getD j undef):=by
 simp [Array.getD,h]
theorem sets_get? (vs:List Value) (arr:Array Value) (o j:Nat) (h:o+vs.length≤arr.size) (hj:j<o):(zLQ arr o vs)[j]? =arr[j]?:=by
 have h1:j<arr.size:=by omega
 rw [getD_some h1,getD_some (by rw [zEC];exact h1),zHP _ _ _ _ h,if_neg (by omega)]
theorem z8T {id off:Nat} {cs:List AV} {L:Loc} {vs:List AV} {ws:List Value} (hr:HRel φ σ H w) (hg:H[id]? =some (.cells cs)) (hp:φ id=some L)
  (hl:vs.length=ws.length) (hv:∀ i,VRel φ σ (vs.getD i .top) (ws.getD i undef)) (hs:∀ v∈vs,v.scalar=true) (hle:off≤cs.length) (hle2:L.o+off+vs.length≤L.e) :
  ∃ w',(storeCells (at_ L.b (L.o+off)) ws).run P w=.ok () w'∧Step φ σ H w φ σ (H.set id (.cells (cs.take off++vs++cs.drop (off+vs.length)))) w':=by
 obtain ⟨arr,t,fr,h1,h2,h3,h4,h5,h6⟩:=z3r hr hg hp
 have hws:∀ x∈ws,x.oneCell'=true:=by
  intro x hx
  obtain ⟨i,hi,rfl⟩:=lC6 hx
  have:=hv i
  rw [lAB,lAB,lAG (by omega),lAG hi] at this
  exact zJb (hs _ (lBT _)) this
 have hb:L.b<w.heap.size:=by
  rcases lBB L.b w.heap.size with h' | h'
  ·exact h'
  ·simp [lCX h'] at h1
 have hsz:L.o+off+ws.length≤arr.size:=by omega
 refine ⟨_,z7g ws 0 arr w h1 (by omega) (fun j hj hj'=>h4 j (by omega) (by omega)) hws,?_⟩
 rw [lDT]
 have hlen:(cs.take off++vs++cs.drop (off+vs.length)).length=max cs.length (off+vs.length):=by
  simp only [lAH,lCW,lC3];omega
 refine z9P hr hg rfl hp ?_ rfl ?_
 ·refine ⟨_,t,fr,by rw [z2L,if_pos rfl,if_pos hb],by rw [zEC];exact h2,by rw [hlen];omega,h4,fun i hi=>?_,h6⟩
  rw [zHP _ _ _ _ hsz]
  rw [hlen] at hi
  simp only [lAB,lA2]
  by_cases c1:i<off
  ·rw [lAN (by simp;omega),if_neg (by omega)]
   simp only [lD6,c1,if_true]
   rw [←lAB]
   exact h5 i (by omega)
  ·rw [lAJ (by simp;omega)]
   rw [show i-(cs.take off).length=i-off by simp;omega]
   by_cases c2:i<off+vs.length
   ·rw [lAN (by omega),if_pos ⟨by omega,by omega⟩,show L.o+i-(L.o+off)=i-off by omega]
    rw [←lAB];exact hv _
   ·rw [lAJ (by omega),if_neg (by omega),lDA,show off+vs.length+(i-off-vs.length)=i by omega]
    rw [←lAB]
    exact h5 i (by omega)
 ·intro j v hσ
  have hj:j<L.o:=by
   rcases lBB j L.o with h | h
   ·exact h
   ·rw [h6 j h] at hσ;cases hσ
  have h7:=hr.sig _ _ _ hσ
  rw [z1h h1] at h7
  rw [z1h (arr:=zLQ arr (L.o+off) ws) (t:=t) (fr:=fr) (by rw [z2L,if_pos rfl,if_pos hb]),sets_get? _ _ _ _ hsz (by omega)]
  exact h7
def zCF (n:Nat) (x v:AV) (H:z0B):Option z0B :=
 match x with
 | .ptr id off=>match H[id]? with
  | some (.cells cs)=>if v.shaped&&v.cells.length==n&&decide (off+n≤cs.length)&&v.cells.all AV.scalar then some (H.set id (.cells (z4m cs off v.cells))) else none
  | _=>none
 | _=>none
theorem zKv {t:TypeId} {n:Nat} {x v:AV} {c d:Value} {H':z0B} (hs:z1n P t=some n) (hr:HRel φ σ H w) (hx:VRel φ σ x c) (hv:VRel φ σ v d)
  (hd:zCF n x v H=some H'):∃ w',(Instr.storeAt t c d).run P w=.ok () w'∧Step φ σ H w φ σ H' w':=by
 unfold zCF at hd
 split at hd
 ·rename_i id off
  split at hd
  ·rename_i cs hg
   split at hd
   ·rename_i hc
    injection hd with hd;subst hd
    simp only [lAQ,lCY,lAD,lAX] at hc
    obtain ⟨⟨⟨c1,c2⟩,c3⟩,c4⟩:=hc
    obtain ⟨e1,e2⟩:=z6C c1 hv
    cases hx with
    | ptr _ _ L hp =>
     obtain ⟨arr,t',fr,h1,h2,h3,h4,h5,h6⟩:=z3r hr hg hp
     obtain ⟨w',r1,r2⟩:=z8T (P:=P) (off:=off) (ws:=d.cells.toList) hr hg hp (by simp [e1]) (fun i=>by rw [z1S];exact e2 i) c4 (by omega) (by omega)
     refine ⟨w',?_,r2⟩
     have:d.cells.size=n:=by omega
     simp [Instr.storeAt,Instr.sureAddr,storeVar,z1P (w:=w) hs,this,r1]
   ·cases hd
  ·cases hd
 ·cases hd
theorem z4s {t:TypeId} {r:Nat} {cs:List AV} {d:Array Value} (hr:HRel φ σ H w) (hf:z8t H r) (hc:z8N φ σ cs d) :
  ∃ φ' w',(newRow t d).run P w=.ok (at_ w.heap.size 0) w'∧Step φ σ H w φ' σ (put H r (.cells cs)) w'∧φ' r=some ⟨w.heap.size,0,d.size⟩:=by
 have hn:=hf.phi hr
 refine ⟨z2B φ r ⟨w.heap.size,0,d.size⟩,w.alloc (.cells d t),rfl,?_,by simp [z2B]⟩
 refine z4Z hr hf ⟨d,t,(0,0),by show (w.heap.push _)[w.heap.size]? =_;simp,rfl,by simp [hc.1],by simp,fun i _=>?_,fun j _=>?_⟩ rfl
 ·rw [lBN];exact (hc.2 i).mono (z4p hn) (.refl _)
 ·cases hσ:σ w.heap.size j with
  | none=>rfl
  | some v =>
   have:=World.block_lt_of_cell? w _ (hr.sig _ _ _ hσ)
   simp [at_] at this
theorem zST {t:TypeId} {r:Nat} {v:AV} {d:Value} (hr:HRel φ σ H w) (hf:z8t H r) (hs:v.shaped=true) (hv:VRel φ σ v d) :
  ∃ c φ' w',(Instr.box t d).run P w=.ok c w'∧Step φ σ H w φ' σ (put H r (.cells v.cells)) w'∧VRel φ' σ (.ptr r 0) c:=by
 obtain ⟨φ',w',h1,h2,h3⟩:=z4s (P:=P) (t:=t) hr hf (z6C hs hv)
 exact ⟨_,φ',w',by simp [Instr.box,newVar,h1],h2,.ptr r 0 _ h3⟩
theorem zNL {t:TypeId} {r:Nat} {zs:List AV} {old:Value} (hr:HRel φ σ H w) (hf:z8t H r) (hz:z5d P t=some zs) :
  ∃ c φ' w',(Instr.alloc t true old).run P w=.ok c w'∧Step φ σ H w φ' σ (put H r (.cells zs)) w'∧VRel φ' σ (.ptr r 0) c:=by
 obtain ⟨z,e1,e2⟩:=z3J (φ:=φ) (σ:=σ) (w:=w) hz
 obtain ⟨φ',w',h1,h2,h3⟩:=z4s (P:=P) (t:=t) hr hf e2
 exact ⟨_,φ',w',by simp [Instr.alloc,newVar,e1,h1],h2,.ptr r 0 _ h3⟩
def z1J (k:Nat) (zs:List AV):List AV:=(List.replicate k zs).flatten
theorem z3Z (k:Nat) (zs:List AV):(z1J k zs).length=k*zs.length:=by
 induction k with
 | zero=>simp [z1J]
 | succ k ih =>
  have:z1J (k+1) zs=zs++z1J k zs:=by simp [z1J,lD3]
  rw [this,lAH,ih,lCH];omega
theorem zKM (k:Nat) (zs:List AV) (i:Nat) (h:i<k*zs.length):(z1J k zs).getD i .top=zs.getD (i % zs.length) .top:=by
 induction k generalizing i with
 | zero=>omega
 | succ k ih =>
  have e:z1J (k+1) zs=zs++z1J k zs:=by simp [z1J,lD3]
  rw [e,lAB]
  by_cases hi:i<zs.length
  ·rw [lAN hi,Nat.mod_eq_of_lt hi,lAB]
  ·have hm:(i-zs.length) % zs.length=i % zs.length:=(Nat.mod_eq_sub_mod (by omega)).symm
   rw [lCH] at h
   rw [lAJ (by omega),←lAB,ih _ (by omega),hm]
theorem z6X {k:Nat} {zs:List AV} {z:Array Value} (h:z8N φ σ zs z) :
  z8N φ σ (z1J k zs) ((Array.range (k*zs.length)).map fun i=>z[i % z.size]!):=by
 refine ⟨by rw [z3Z];simp,fun i=>?_⟩
 by_cases hi:i<k*zs.length
 ·rw [zKM _ _ _ hi]
  have hz:0<zs.length:=by
   rcases Nat.eq_zero_or_pos zs.length with h0 | h0
   ·rw [h0] at hi;omega
   ·exact h0
  have hm:i % z.size<z.size:=by rw [←h.1];exact Nat.mod_lt _ hz
  rw [show ((Array.range (k*zs.length)).map fun i=>z[i % z.size]!).getD i undef=z.getD (i % z.size) undef by
   simp [lAR,hi,hm]]
  rw [←h.1];exact h.2 _
 ·rw [lAB,lBG (by rw [z3Z];omega)]
  exact .top _
theorem z6r {t e:TypeId} {r sz len:Nat} {zs:List AV} {parts:List (Nat × Value)} {vs out:List AV} (hr:HRel φ σ H w) (hf:z8t H r)
  (hu:P.underlying t=some (.slice e)) (hs:z1n P e=some sz) (hz:if len*sz=0 then zs=[] else z5d P e=some zs) (hzl:len*sz=0∨zs.length=sz)
  (hlim:len*sz≤2 ^ 24) (hl:vs.length=parts.length) (hv:∀ i,VRel φ σ (vs.getD i .top) ((parts.map (·.2)).getD i undef))
  (hd:z5M (if len*sz=0 then [] else z1J len zs) (parts.map fun x=>(x.1*sz,sz)) vs=some out) :
  ∃ c φ' w',(Instr.buildSlice t len parts.toArray).run P w=.ok c w'∧Step φ σ H w φ' σ (put H r (.cells out)) w'∧VRel φ' σ (.sl r 0 len sz) c:=by
 have h3:=z1P (w:=w) hs
 have hlim':¬ len*sz>2 ^ 24:=by omega
 have hlen:∀ (cs out:List AV) (ps:List (Nat × Nat)) (vs:List AV),z5M cs ps vs=some out→out.length=cs.length:=by
  intro cs out ps
  induction ps generalizing cs with
  | nil=>intro vs h;cases vs<;>simp [z5M] at h;rw [h]
  | cons p ps ih =>
   intro vs h
   cases vs with
   | nil=>simp [z5M] at h
   | cons v vs =>
    obtain ⟨off,size⟩:=p
    simp only [z5M] at h
    split at h
    ·rename_i hb
     simp only [lAQ,lCY,lAD] at hb
     rw [ih _ _ h,z8w _ _ _ (by omega)]
    ·cases h
 by_cases h0:len*sz=0
 ·rw [if_pos h0] at hd
  obtain ⟨cout,f1,f2⟩:=z8E (φ:=φ) (σ:=σ) (fun i=>some (i*sz,sz)) parts (parts.map fun x=>(x.1*sz,sz)) vs [] #[] out (by simp [lB0,Function.comp_def]) hl hv ⟨rfl,fun i=>by simpa using VRel.top _⟩ hd
  obtain ⟨φ',w',e1,e2,e3⟩:=z4s (P:=P) (t:=e) hr hf f2
  have:cout.size=0:=by rw [←f2.1,hlen _ _ _ _ hd];rfl
  refine ⟨.slice (some (at_ w.heap.size 0)) len len,φ',w',?_,e2,.sl _ _ _ _ _ ⟨w.heap.size,0,cout.size⟩ e3 (lAL _) (by simp only [this];omega)⟩
  simp only [Instr.buildSlice,Sem.run_bind,z0C hu,Result.andThen_ok,h3,h0]
  rw [if_neg (by omega)]
  simp only [Sem.run_bind,Sem.run_pure,Result.andThen_ok,if_true]
  rw [show Array.map (fun x=>(#[]:Array Value)[x % (#[]:Array Value).size]!) (Array.range 0) = #[] by simp,f1]
  simp [e1]
 ·rw [if_neg h0] at hd hz
  obtain ⟨z,z1,z2⟩:=z3J (φ:=φ) (σ:=σ) (w:=w) hz
  have hzl':zs.length=sz:=hzl.resolve_left h0
  have hc:=z6X (k:=len) z2
  rw [hzl'] at hc
  obtain ⟨cout,f1,f2⟩:=z8E (φ:=φ) (σ:=σ) (fun i=>some (i*sz,sz)) parts (parts.map fun x=>(x.1*sz,sz)) vs _ _ out (by simp [lB0,Function.comp_def]) hl hv hc hd
  obtain ⟨φ',w',e1,e2,e3⟩:=z4s (P:=P) (t:=e) hr hf f2
  have hsz:cout.size=len*sz:=by rw [←f2.1,hlen _ _ _ _ hd,z3Z,hzl']
  refine ⟨.slice (some (at_ w.heap.size 0)) len len,φ',w',?_,e2,.sl _ _ _ _ _ ⟨w.heap.size,0,cout.size⟩ e3 (lAL _) (by simp [hsz])⟩
  simp only [Instr.buildSlice,Sem.run_bind,z0C hu,Result.andThen_ok,h3,if_neg h0,if_neg hlim',z1]
  simp only [Sem.run_pure,Result.andThen_ok]
  rw [f1]
  simp [e1]
theorem zDC {t e:TypeId} {r sz:Nat} {zs:List AV} {k k':IntKind} {len cap:Int} {i:TypeInfo} (hr:HRel φ σ H w) (hf:z8t H r)
  (hu:P.underlying t=some (.slice e)) (hi:P.info? e=some i) (hsz:i.size=sz) (hz:z5d P e=some zs) (hzl:zs.length=sz)
  (h0:0≤len) (h1:len≤cap) (hb:cap≤9223372036854775807) (hlim:(i.bytes:Int)*cap≤2 ^ 48) :
  ∃ c φ' w',(Instr.makeSlice t (.int k len) (.int k' cap)).run P w=.ok c w'∧Step φ σ H w φ' σ (put H r (.cells (z1J cap.toNat zs))) w'∧VRel φ' σ (.sl r 0 len.toNat sz) c:=by
 have hs:z1n P e=some sz:=by simp [z1n,hi,hsz]
 have h3:=z1P (w:=w) hs
 obtain ⟨z,z1,z2⟩:=z3J (φ:=φ) (σ:=σ) (w:=w) hz
 have hc:=z6X (k:=cap.toNat) z2
 rw [hzl] at hc
 have hwl:IntKind.i64.wrap len=len:=by unfold IntKind.wrap;simp [IntKind.bits,IntKind.signed];omega
 have hwc:IntKind.i64.wrap cap=cap:=by unfold IntKind.wrap;simp [IntKind.bits,IntKind.signed];omega
 obtain ⟨φ',w',e1,e2,e3⟩:=z4s (P:=P) (t:=e) hr hf hc
 have hcs:((Array.range (cap.toNat*sz)).map fun i=>z.cells[i % z.cells.size]!).size=cap.toNat*sz:=by simp
 refine ⟨.slice (some (at_ w.heap.size 0)) len.toNat cap.toNat,φ',w',?_,e2,.sl _ _ _ _ _ _ e3 (by omega) (by rw [hcs];simp)⟩
 have ht:(decide (cap<0)||decide ((i.bytes:Int)*cap>2 ^ 48))=false:=by
  rw [lCJ];exact ⟨by simp;omega,by simp only [lAC];omega⟩
 have hc2:(decide (cap<0)||decide ((i.bytes:Int)*cap>2 ^ 48)||decide (len<0)||decide (len>cap))=false:=by
  rw [ht];simp;omega
 simp only [Instr.makeSlice,Sem.run_bind,z0C hu,Result.andThen_ok,asInt,asIntOf,Sem.run_pure,typeInfo,run_program,hi,hwl,hwc]
 rw [if_neg (by rw [hc2];simp)]
 simp only [Sem.run_bind,Result.andThen_ok,run_askRoom,h3]
 by_cases hn:cap.toNat*sz=0
 ·have ea:((Array.range (cap.toNat*sz)).map fun i=>z.cells[i % z.cells.size]!)=((Array.range (cap.toNat*sz)).map fun i=>(#[]:Array Value)[i % (#[]:Array Value).size]!):=by
   rw [hn];simp
  rw [ea] at e1
  rw [if_pos hn,pure_bind,Sem.run_bind,e1]
  rfl
 ·rw [if_neg hn,Sem.run_bind,z1,Result.andThen_ok,pure_bind,Sem.run_bind,e1]
  rfl
end Go.Ab
namespace Go.Ab
variable {P:Program} {φ:Phi} {σ:Sig} {H:z0B} {w:World}
def z1m (sz:Nat) (H:z0B) (x:AV):Option (Nat × List AV) :=
 match x with
 | .nilslice=>some (0,[])
 | .sl id off n sz'=>if sz=sz' then match H[id]? with
   | some (.cells cs)=>if off+n*sz≤cs.length then some (n,(cs.drop off).take (n*sz)) else none
   | _=>none
  else none
 | .list sz' xs=>if sz=sz' then some (xs.length,z0j xs) else none
 | _=>none
theorem z5k {sz n:Nat} {x:AV} {ys:List AV} {c:Value} (hr:HRel φ σ H w) (hx:VRel φ σ x c) (hs:z1m sz H x=some (n,ys)) :
  (Builtin.lenOf c).run P w=.ok n w∧ys.length=n*sz∧∃ arr,(Builtin.firstCells sz n c).run P w=.ok arr w∧z8N φ σ ys arr:=by
 unfold z1m at hs
 split at hs
 ·injection hs with hs;injection hs with h1 h2;subst h1;subst h2
  cases hx
  exact ⟨rfl,by simp,#[],rfl,rfl,fun i=>by simpa using VRel.top _⟩
 ·rename_i id off m sz'
  split at hs
  ·rename_i e;subst e
   split at hs
   ·rename_i cs hg
    split at hs
    ·rename_i hle
     injection hs with hs;injection hs with h1 h2;subst h1;subst h2
     cases hx with
     | sl _ _ _ _ cap L hp hn hc =>
      obtain ⟨arr,t',fr,h1,h2,h3,h4,h5,h6⟩:=z3r hr hg hp
      have hl:=z8f (P:=P) (w:=w) (b:=L.b) (o:=L.o+off) (k:=m*sz) (f:=fun j=>arr.getD (L.o+off+j) undef) fun j hj=>by
       rw [z1h h1,getD_some (by omega)]
      refine ⟨rfl,by simp;omega,_,hl,by simp;omega,fun i=>?_⟩
      rw [z1z,z8d]
      split
      ·rw [lBK];exact h5 _ (by omega)
      ·exact .top _
    ·cases hs
   ·cases hs
  ·cases hs
 ·rename_i sz' xs
  split at hs
  ·rename_i e;subst e
   injection hs with hs;injection hs with h1 h2;subst h1;subst h2
   cases hx with
   | list _ _ b o m cap f hsz hx hn h r =>
    subst hx
    have hfl:=z2z xs hsz
    have hl:=z8f (P:=P) (w:=w) (b:=b) (o:=o) (k:=xs.length*sz) (f:=f) fun j hj=>hr.sig _ _ _ (h j (by omega))
    refine ⟨rfl,hfl,_,hl,by simp [hfl],fun i=>?_⟩
    rw [z8d]
    split
    ·exact r i
    ·rw [lAB,lBG (by omega)];exact .top _
   | elist _ a=>exact ⟨rfl,by simp [z0j],#[],by simp [Builtin.firstCells,loadCells,loadCellsFrom],rfl,fun i=>by simpa [z0j] using VRel.top _⟩
  ·cases hs
 ·cases hs
theorem z5g (hr:HRel φ σ H w):Step φ σ H w φ σ H w.drew :=
 ⟨.refl _,.refl _,rfl,rfl,rfl,lAL _,fun _ _ _=>rfl,fun _ h=>.inr h,
  ⟨hr.dom,hr.bnd,fun id b h hl=>by
   obtain ⟨L,h1,h2⟩:=hr.blk id b h hl
   exact ⟨L,h1,h2.mono (.refl _) (.refl _) (fun _ _ _ h=>h) rfl⟩,hr.inj,hr.sig,hr.resv⟩⟩
theorem zFr {id r off k:Nat} {cs:List AV} {L:Loc} (hr:HRel φ σ H w) (hg:H[id]? =some (.cells cs)) (hp:φ id=some L) (hf:z8t H r) (hle:off+k≤cs.length) :
  Step φ σ H w (z2B φ r ⟨L.b,L.o+off,L.e⟩) σ (put (H.set id .dead) r (.cells ((cs.drop off).take k))) w:=by
 have hn:=hf.phi hr
 have hext:=z4p (L:=⟨L.b,L.o+off,L.e⟩) hn
 have hid:id<H.length:=by
  rcases lBB id H.length with h | h
  ·exact h
  ·simp [h] at hg
 have hne:r≠id:=by
  rintro rfl
  rcases hf with h | h
  ·omega
  ·rw [hg] at h;cases h
 have hf':z8t (H.set id .dead) r:=by
  rcases hf with h | h
  ·exact .inl (by simpa using h)
  ·exact .inr (by rw [z1x _ hid,if_neg hne];exact h)
 have hget:∀ i,(put (H.set id .dead) r (.cells ((cs.drop off).take k)))[i]? =if i=r then some (.cells ((cs.drop off).take k)) else if i=id then some .dead else H[i]?:=by
  intro i
  rw [z8e hf']
  by_cases h:i=r
  ·rw [if_pos h,if_pos h]
  ·rw [if_neg h,if_neg h,z1x _ hid]
 have hphi:∀ i M,z2B φ r ⟨L.b,L.o+off,L.e⟩ i=some M→(i=r∧M=⟨L.b,L.o+off,L.e⟩)∨(i≠r∧φ i=some M):=by
  intro i M h
  unfold z2B at h
  by_cases hi:i=r
  ·rw [if_pos hi] at h;injection h with h;exact .inl ⟨hi,h.symm⟩
  ·rw [if_neg hi] at h;exact .inr ⟨hi,h⟩
 have hb:=z3r hr hg hp
 refine ⟨hext,.refl _,rfl,rfl,rfl,lAL _,fun _ _ _=>rfl,?_,?_⟩
 ·rintro b ⟨i,bl,M,h1,h2,h3,rfl⟩
  rw [hget] at h1
  rcases hphi _ _ h3 with ⟨e1,e2⟩ | ⟨e1,e2⟩
  ·exact .inr ⟨id,_,L,hg,rfl,hp,by rw [e2]⟩
  ·rw [if_neg e1] at h1
   by_cases e:i=id
   ·rw [if_pos e] at h1;injection h1 with h1;subst h1;simp [Blk.live] at h2
   ·rw [if_neg e] at h1;exact .inr ⟨i,bl,M,h1,h2,e2,rfl⟩
 ·refine ⟨?_,?_,?_,?_,hr.sig,?_⟩
  ·intro i M h
   rcases hphi _ _ h with ⟨e1,_⟩ | ⟨_,e2⟩
   ·rw [e1];exact (z4n hf').2
   ·have:=hr.dom _ _ e2;have:=(z4n (b:=.cells ((cs.drop off).take k)) hf').1;simp at this;omega
  ·intro i M h
   rcases hphi _ _ h with ⟨_,e2⟩ | ⟨_,e2⟩
   ·rw [e2];show L.b<_;exact hr.bnd id L hp
   ·exact hr.bnd _ _ e2
  ·intro i b h hl
   rw [hget] at h
   by_cases e:i=r
   ·rw [if_pos e] at h;injection h with h;subst h;subst e
    obtain ⟨arr,t',fr,h1,h2,h3,h4,h5,h6⟩:=hb
    refine ⟨⟨L.b,L.o+off,L.e⟩,by simp [z2B],arr,t',fr,h1,h2,by simp;omega,fun j hj hj'=>h4 j (by simp at hj;omega) hj',fun i hi=>?_,fun j hj=>h6 j (by simp at hj;omega)⟩
    rw [z1z]
    simp only [lCW,lC3] at hi
    rw [if_pos (by omega)]
    simp only [lBK]
    exact (h5 _ (by omega)).mono hext (.refl _)
   ·rw [if_neg e] at h
    by_cases e2:i=id
    ·rw [if_pos e2] at h;injection h with h;subst h;simp [Blk.live] at hl
    ·rw [if_neg e2] at h
     obtain ⟨M,h1,h2⟩:=hr.blk i b h hl
     exact ⟨M,hext _ _ h1,h2.mono hext (.refl _) (fun _ _ _ h=>h) rfl⟩
  ·intro i j b c M N h1 h2 h3 h4 h5 h6 h7
   rw [hget] at h1 h3
   rcases hphi _ _ h5 with ⟨e1,e2⟩ | ⟨e1,e2⟩<;>rcases hphi _ _ h6 with ⟨e3,e4⟩ | ⟨e3,e4⟩
   ·rw [e1,e3]
   ·rw [if_neg e3] at h3
    by_cases e:j=id
    ·rw [if_pos e] at h3;injection h3 with h3;subst h3;simp [Blk.live] at h4
    ·rw [if_neg e] at h3
     rw [e2] at h7
     exact absurd (hr.inj j id c _ N L h3 h4 hg rfl e4 hp h7.symm) e
   ·rw [if_neg e1] at h1
    by_cases e:i=id
    ·rw [if_pos e] at h1;injection h1 with h1;subst h1;simp [Blk.live] at h2
    ·rw [if_neg e] at h1
     rw [e4] at h7
     exact absurd (hr.inj i id b _ M L h1 h2 hg rfl e2 hp h7) e
   ·rw [if_neg e1] at h1;rw [if_neg e3] at h3
    by_cases e:i=id
    ·rw [if_pos e] at h1;injection h1 with h1;subst h1;simp [Blk.live] at h2
    ·by_cases f:j=id
     ·rw [if_pos f] at h3;injection h3 with h3;subst h3;simp [Blk.live] at h4
     ·rw [if_neg e] at h1;rw [if_neg f] at h3;exact hr.inj i j b c M N h1 h2 h3 h4 e2 e4 h7
  ·intro i h
   rw [hget] at h
   by_cases e:i=r
   ·rw [if_pos e] at h;cases h
   ·rw [if_neg e] at h
    by_cases f:i=id
    ·rw [if_pos f] at h;cases h
    ·rw [if_neg f] at h;simp only [z2B,if_neg e];exact hr.resv _ h
theorem zKx {id:Nat} (hr:HRel φ σ H w):Step φ σ H w φ σ (H.set id .dead) w:=by
 have hg:∀ (i:Nat) (b:Blk),(H.set id Blk.dead)[i]? =some b→b.live=true→H[i]? =some b:=by
  intro i b h hl
  rw [lA7] at h
  by_cases e:id=i
  ·rw [if_pos e] at h
   split at h
   ·injection h with h;subst h;simp [Blk.live] at hl
   ·cases h
  ·rw [if_neg e] at h;exact h
 refine ⟨.refl _,.refl _,rfl,rfl,rfl,lAL _,fun _ _ _=>rfl,?_,?_,hr.bnd,?_,?_,hr.sig,?_⟩
 ·rintro b ⟨i,bl,M,h1,h2,h3,rfl⟩
  exact .inr ⟨i,bl,M,hg _ _ h1 h2,h2,h3,rfl⟩
 ·intro i M h;simpa using hr.dom i M h
 ·intro i b h hl;exact hr.blk i b (hg _ _ h hl) hl
 ·intro i j b c M N h1 h2 h3 h4 h5 h6 h7
  exact hr.inj i j b c M N (hg _ _ h1 h2) h2 (hg _ _ h3 h4) h4 h5 h6 h7
 ·intro i h
  rw [lA7] at h
  by_cases e:id=i
  ·rw [if_pos e] at h
   split at h
   ·injection h with h;cases h
   ·cases h
  ·rw [if_neg e] at h;exact hr.resv _ h
theorem zPH {id r:Nat} {b:Blk} (hid:id<H.length) (hne:r≠id):(put H r b).set id .dead=put (H.set id .dead) r b:=by
 unfold put
 rw [lCK]
 split
 ·rw [List.set_comm _ _ hne]
 ·rw [lD1 _ _ hid]
theorem zFG (n:Nat) (hn:256≤n):∀ (k c:Nat),c≤2*n→Builtin.growBy n k c≤2*n
 | 0,c,h=>h
 | k+1,c,h=>by
  unfold Builtin.growBy
  split
  ·exact h
  ·exact zFG n hn k _ (by omega)
theorem zJt {need cap:Nat} (h:cap<need):Builtin.nextslicecap need cap≤2*need:=by
 unfold Builtin.nextslicecap
 split
 ·omega
 ·split
  ·omega
  ·exact zFG need (by omega) 4 cap (by omega)
def z5z (sz bytes:Nat) (s x:AV) (H:z0B) (r:Nat):Option (AV × z0B) :=
 match z1m sz H s,z1m sz H x with
 | some (n,old),some (m,ys) =>
  if ys.all AV.scalar&&decide ((n+m)*bytes≤2 ^ 47) then
   match s with
   | .nilslice=>if m=0 then some (.nilslice,H) else some (.sl r 0 m sz,put H r (.cells ys))
   | .sl id _ _ _=>some (.sl r 0 (n+m) sz,put (H.set id .dead) r (.cells (old++ys)))
   | _=>none
  else none
 | _,_=>none
theorem z5P {xs ys:List AV} {a b:Array Value} (h:z8N φ σ xs a) (k:z8N φ σ ys b):z8N φ σ (xs++ys) (a++b):=by
 refine ⟨by simp [h.1,k.1],fun i=>?_⟩
 rw [lAB,lAR]
 by_cases hi:i<xs.length
 ·rw [lAN hi,lB8 (by rw [←h.1];exact hi),←lAB,←lAR]
  exact h.2 i
 ·rw [lAJ (by omega),Array.getElem?_append_right (by rw [←h.1];omega),←lAB,←lAR,h.1]
  exact k.2 _
theorem zGm {xs:List AV} {a:Array Value} (h:z8N φ σ xs a):xs.length=a.toList.length∧∀ i,VRel φ σ (xs.getD i .top) (a.toList.getD i undef) :=
 ⟨by simp [h.1],fun i=>by rw [z1S];exact h.2 i⟩
theorem zBz {t:TypeId} {r:Nat} {cs:List AV} {d rest:Array Value} (hr:HRel φ σ H w) (hf:z8t H r) (hc:z8N φ σ cs d) :
  ∃ φ' w',(newRow t (d++rest)).run P w=.ok (at_ w.heap.size 0) w'∧Step φ σ H w φ' σ (put H r (.cells cs)) w'∧φ' r=some ⟨w.heap.size,0,d.size+rest.size⟩:=by
 have hn:=hf.phi hr
 refine ⟨z2B φ r ⟨w.heap.size,0,d.size+rest.size⟩,w.alloc (.cells (d++rest) t),rfl,?_,by simp [z2B]⟩
 refine z4Z hr hf ⟨d++rest,t,(0,0),by show (w.heap.push _)[w.heap.size]? =_;simp,by simp,by simp [hc.1],by simp,fun i hi=>?_,fun j _=>?_⟩ rfl
 ·rw [lBN]
  have:i<d.size:=by rw [←hc.1];exact hi
  rw [lAR,lB8 this,←lAR]
  exact (hc.2 i).mono (z4p hn) (.refl _)
 ·cases hσ:σ w.heap.size j with
  | none=>rfl
  | some v =>
   have:=World.block_lt_of_cell? w _ (hr.sig _ _ _ hσ)
   simp [at_] at this
def zHt:TypeDesc→Bool
 | .slice _ | .string=>true
 | _=>false
theorem zKY {t xt ty e:TypeId} {r sz:Nat} {zs:List AV} {i:TypeInfo} {s x v:AV} {c d:Value} {H':z0B} {xd:TypeDesc} (hr:HRel φ σ H w) (hf:z8t H r)
  (hu:P.underlying t=some (.slice e)) (hi:P.info? e=some i) (hsz:i.size=sz) (hz:z5d P e=some zs) (hzl:zs.length=sz) (hb:i.bytes≠0)
  (hxu:P.underlying xt=some xd) (hxd:zHt xd=true)
  (hs:VRel φ σ s c) (hx:VRel φ σ x d) (he:z5z sz i.bytes s x H r=some (v,H')) :
  ∃ c' φ' w',(Builtin.append_ #[t,xt] ty #[c,d]).run P w=.ok c' w'∧Step φ σ H w φ' σ H' w'∧VRel φ' σ v c':=by
 have hs3:z1n P e=some sz:=by simp [z1n,hi,hsz]
 have h3:=fun w=>z1P (P:=P) (w:=w) hs3
 obtain ⟨z,z1,z2⟩:=z3J (φ:=φ) (σ:=σ) (w:=w) hz
 have z1':∀ w,(zeroValue e).run P w=.ok z w:=by
  intro w'
  unfold zeroValue typeInfo at z1 ⊢
  simp only [Sem.run_bind,run_program,Result.andThen_ok,hi,Sem.run_pure] at z1 ⊢
  cases hzz:i.zero with
  | none=>rw [hzz] at z1;simp at z1
  | some q=>rw [hzz] at z1;simp at z1 ⊢;exact z1
 unfold z5z at he
 split at he
 case h_2=>cases he
 rename_i n old m ys ho hy
 split at he
 case isFalse=>cases he
 rename_i hc
 simp only [lAQ,lAX,lAD] at hc
 obtain ⟨hsc,hbd⟩:=hc
 obtain ⟨ol,oln,oarr,o1,o2⟩:=z5k (P:=P) hr hs ho
 obtain ⟨yl,yln,yarr,y1,y2⟩:=z5k (P:=P) hr hx hy
 have fresh:∀ (base:Option Addr) (cap:Nat),c=.slice base n cap→cap<n+m →
   ∃ φ' w' nc,(Builtin.append_ #[t,xt] ty #[c,d]).run P w=.ok (.slice (some (at_ w.heap.size 0)) (n+m) nc) w'∧n+m≤nc ∧
    Step φ σ H w φ' σ (put H r (.cells (old++ys))) w'∧φ' r=some ⟨w.heap.size,0,nc*sz⟩:=by
  intro base cap hcb hlt
  have hdr:=z5g hr
  obtain ⟨_,_,oarr',o1',o2'⟩:=z5k (P:=P) hdr.hrel hs ho
  obtain ⟨_,_,yarr',y1',y2'⟩:=z5k (P:=P) hdr.hrel hx hy
  have hnc:¬ (Builtin.nextslicecap (n+m) cap*i.bytes>2 ^ 48):=by
   have:=lDF i.bytes (zJt hlt)
   rw [Nat.mul_assoc] at this
   omega
  generalize hT:w.tape w.drawn (.appendCap (n+m) cap e)=T
  have hrest:(Builtin.zeroCells z.cells (n+m+T % (2 ^ 63-(n+m))-(n+m))).size=(T % (2 ^ 63-(n+m)))*sz:=by
   have:z.cells.size=sz:=by rw [←z2.1,hzl]
   simp only [Builtin.zeroCells,Array.size_map,Array.size_range,this]
   congr 1;omega
  obtain ⟨φ',w',e1,e2,e3⟩:=zBz (P:=P) (t:=e) (r:=r) (rest:=Builtin.zeroCells z.cells (n+m+T % (2 ^ 63-(n+m))-(n+m))) hdr.hrel hf (z5P o2' y2')
  refine ⟨φ',w',n+m+T % (2 ^ 63-(n+m)),?_,by omega,hdr.trans e2,?_⟩
  ·subst hcb
   have hgt:¬ (n+m≤cap):=by omega
   have hbig:¬ (((n+m:Nat):Int)>IntKind.i64.max∧(False∨i.bytes=0)):=by
    rintro ⟨_,h | h⟩
    ·exact h
    ·exact hb h
   have hch:(choose (Question.appendCap (n+m) cap e)).run P w=.ok (n+m+T % (2 ^ 63-(n+m))) w.drew:=by
    rw [run_choose]
    simp only [Question.forced,lAV,if_false,Question.cut,hT]
    rfl
   have hti:∀ w,(typeInfo e).run P w=.ok i w:=fun w=>by simp [typeInfo,hi]
   simp only [Builtin.append_,lCP,lA0,lBD,Sem.run_bind,z0C hu,z0C hxu,Result.andThen_ok,h3,Sem.run_pure]
   cases xd<;>first
    | (simp [zHt] at hxd;done)
    | simp only [lAV,if_false,Sem.run_bind,yl,Result.andThen_ok,hgt,hti,hbig,hnc,hch,run_askRoom,o1',Bool.not_false,if_true,y1',z1',e1,Sem.run_pure,World.size_drew]
  ·rw [e3,hrest]
   have h1:(oarr'++yarr').size=(n+m)*sz:=by rw [←(z5P o2' y2').1,lAH,oln,yln,lCH]
   rw [h1,←lCH]
   rfl
 have same:∀ (id off cap:Nat) (L:Loc),s=.sl id off n sz→c=.slice (some (at_ L.b (L.o+off))) n cap→φ id=some L→L.o+off+cap*sz≤L.e→n+m≤cap →
   ∃ φ' w',(Builtin.append_ #[t,xt] ty #[c,d]).run P w=.ok (.slice (some (at_ L.b (L.o+off))) (n+m) cap) w' ∧
    Step φ σ H w φ' σ (put (H.set id .dead) r (.cells (old++ys))) w'∧φ' r=some ⟨L.b,L.o+off,L.e⟩:=by
  intro id off cap L hse hcb hp hcap hle
  subst hse
  simp only [z1m,if_true] at ho
  split at ho
  case h_2=>cases ho
  rename_i cs hg
  split at ho
  case isFalse=>cases ho
  rename_i hlen
  injection ho with ho;injection ho with _ ho;subst ho
  have hmul:(n+m)*sz=n*sz+m*sz:=lCH _ _ _
  have hmul2:(n+m)*sz≤cap*sz:=lDF _ hle
  obtain ⟨k1,k2⟩:=zGm y2
  obtain ⟨w',s1,s2⟩:=z8T (P:=P) (off:=off+n*sz) hr hg hp k1 k2 hsc hlen (by omega)
  have hid:id<H.length:=by
   rcases lBB id H.length with h | h
   ·exact h
   ·simp [h] at hg
  have hne:r≠id:=by
   rintro rfl
   rcases hf with h | h
   ·omega
   ·rw [hg] at h;cases h
  have hf1:z8t (H.set id (.cells (cs.take (off+n*sz)++ys++cs.drop (off+n*sz+ys.length)))) r:=by
   rcases hf with h | h
   ·exact .inl (by simpa using h)
   ·exact .inr (by rw [z1x _ hid,if_neg hne];exact h)
  have s3:=zFr (r:=r) (off:=off) (k:=(n+m)*sz) s2.hrel (by rw [z1x _ hid,if_pos rfl]) (s2.extP _ _ hp) hf1 (by simp;omega)
  refine ⟨z2B φ r ⟨L.b,L.o+off,L.e⟩,w',?_,?_,by simp [z2B]⟩
  ·subst hcb
   simp only [Builtin.append_,lCP,lA0,lBD,Sem.run_bind,z0C hu,z0C hxu,Result.andThen_ok,h3,Sem.run_pure]
   rw [←lBK,←z4z] at s1
   cases xd<;>first
    | (simp [zHt] at hxd;done)
    | simp only [lAV,if_false,Sem.run_bind,yl,Result.andThen_ok,hle,if_true,Bool.not_false,y1,s1,Sem.run_pure]
  ·have s4:=s2.trans s3
   rw [List.set_set] at s4
   have e:((cs.take (off+n*sz)++ys++cs.drop (off+n*sz+ys.length)).drop off).take ((n+m)*sz)=(cs.drop off).take (n*sz)++ys:=by
    rw [lA2,List.drop_append_of_le_length (by simp;omega),←lA2,List.take_append_of_le_length (by simp;omega),List.drop_take]
    rw [show off+n*sz-off=n*sz by omega]
    rw [lAS (by simp;omega)]
   rw [e] at s4
   exact s4
 split at he
 ·
  cases hs
  simp only [z1m] at ho
  injection ho with ho;injection ho with h1 h2;subst h1;subst h2
  split at he
  ·rename_i hm
   subst hm
   injection he with he;injection he with h1 h2;subst h1;subst h2
   refine ⟨.slice none 0 0,φ,w,?_,.refl hr,.nilslice⟩
   simp only [Builtin.append_,lCP,lA0,lBD,Sem.run_bind,z0C hu,z0C hxu,Result.andThen_ok,h3,Sem.run_pure]
   cases xd<;>first
    | (simp [zHt] at hxd;done)
    | simp only [lAV,if_false,Sem.run_bind,yl,Result.andThen_ok,lAL,if_true,Bool.not_false,y1,Sem.run_pure,lDT]
  ·rename_i hm
   injection he with he;injection he with h1 h2;subst h1;subst h2
   obtain ⟨φ',w',nc,e1,e2,e3,e4⟩:=fresh none 0 rfl (by omega)
   simp only [lBN,lC0] at e1 e2 e3
   exact ⟨_,φ',w',e1,e3,.sl _ _ _ _ _ _ e4 e2 (by simp)⟩
 ·rename_i id off n' sz'
  injection he with he;injection he with h1 h2;subst h1;subst h2
  have hno:n'=n∧sz'=sz:=by
   simp only [z1m] at ho
   split at ho
   ·rename_i e
    split at ho
    ·split at ho
     ·injection ho with ho;injection ho with h1 h2;exact ⟨h1,e.symm⟩
     ·cases ho
    ·cases ho
   ·cases ho
  obtain ⟨rfl,rfl⟩:=hno
  cases hs with
  | sl _ _ _ _ cap L hp hn hcap =>
   by_cases hle:n'+m≤cap
   ·obtain ⟨φ',w',e1,e2,e3⟩:=same id off cap L rfl rfl hp hcap hle
    exact ⟨_,φ',w',e1,e2,.sl r 0 _ _ cap ⟨L.b,L.o+off,L.e⟩ e3 hle (by simpa using hcap)⟩
   ·obtain ⟨φ',w',nc,e1,e2,e3,e4⟩:=fresh _ cap rfl (by omega)
    have hid:=hr.dom _ _ hp
    have hne:r≠id:=by
     rintro rfl
     rw [hf.phi hr] at hp;cases hp
    have e5:=e3.trans (zKx (id:=id) e3.hrel)
    rw [zPH hid hne] at e5
    exact ⟨_,φ',w',e1,e5,.sl _ _ _ _ _ _ e4 e2 (by simp)⟩
 ·cases he
end Go.Ab
