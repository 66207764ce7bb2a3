/- Part 3 of the proof. -/
import Derived.Laws.IdiomStrings
import Derived.Laws.IdiomRangeMap
import Derived.Test.YtagcckioikbanaaGreatDoorM02
set_option linter.unusedVariables false
set_option linter.unusedSimpArgs false
namespace Go.Ab
variable {P:Program} {φ:Phi} {σ:Sig} {H:z0B} {w:World}
inductive EOp where
 | s2b
 | b2s
 | clearSl (sz:Nat) (zs:List AV)
 | capNil
 | appendZ (sz bytes:Nat) (zs:List AV)
def zCQ (l:List UInt8):List AV:=l.map fun b=>.int .u8 b.toNat
def z5f:List AV→Option (List UInt8)
 | []=>some []
 | .int .u8 n::l=>match z5f l with
  | some r=>some (UInt8.ofNat n.toNat::r)
  | none=>none
 | _=>none
def zKg (m:EOp) (args:List AV) (H:z0B) (r:Nat):Option (AV × z0B) :=
 match m,args with
 | .s2b,[.str l]=>some (.sl r 0 l.length 1,put H r (.cells (zCQ l)))
 | .b2s,[x]=>match z1m 1 H x with
  | some (_,ys)=>match z5f ys with
   | some l=>some (.str l,H)
   | none=>none
  | none=>none
 | .clearSl sz zs,[x]=>match x with
  | .nilslice=>some (.top,H)
  | .list _ []=>some (.top,H)
  | .sl id off n sz'=>if sz=sz' then match H[id]? with
    | some (.cells cs)=>if off+n*sz≤cs.length&&zs.all AV.scalar then some (.top,H.set id (.cells (z4m cs off (z1J n zs)))) else none
    | _=>none
   else none
  | _=>none
 | .capNil,[.nilslice]=>some (.int .i64 0,H)
 | .appendZ sz bytes zs,[.nilslice,.int _ n]=>if 0<n∧n≤1073741824∧n*bytes≤1073741824 then some (.sl r 0 n.toNat sz,put H r (.cells (z1J n.toNat zs))) else none
 | _,_=>none
def cE (P:Program) (o:Oper):Option (EOp × List Operand) :=
 match o.op with
 | .convert s d x=>match P.underlying s,P.underlying d with
  | some .string,some (.slice e)=>match P.underlying e with
   | some (.int .u8)=>some (.s2b,[x])
   | _=>none
  | some (.slice e),some .string=>match P.underlying e with
   | some (.int .u8)=>some (.b2s,[x])
   | _=>none
  | _,_=>none
 | .call { callee:=.builtin .clear,args,argTypes }=>match args.toList,argTypes.toList with
  | [x],[t]=>match P.underlying t with
   | some (.slice e)=>match z1n P e,z5d P e with
    | some sz,some zs=>if zs.length=sz then some (.clearSl sz zs,[x]) else none
    | _,_=>none
   | _=>none
  | _,_=>none
 | .call { callee:=.builtin .append,args,argTypes }=>match args.toList,argTypes.toList with
  | [s,x],[t,xt]=>match P.underlying t,P.underlying xt with
   | some (.slice e),some (.int _)=>match P.info? e,z5d P e with
    | some i,some zs=>if zs.length=i.size∧0<i.size then some (.appendZ i.size i.bytes zs,[s,x]) else none
    | _,_=>none
   | _,_=>none
  | _,_=>none
 | .call { callee:=.builtin .cap,args,argTypes }=>match args.toList,argTypes.toList with
  | [x],[t]=>match P.underlying t with
   | some (.slice _)=>some (.capNil,[x])
   | _=>none
  | _,_=>none
 | _=>none
theorem zRM {s d e:TypeId} {r:Nat} {l:List UInt8} {c:Value} (hr:HRel φ σ H w) (hf:z8t H r) (hs:P.underlying s=some .string) (hd:P.underlying d=some (.slice e)) (he:P.underlying e=some (.int .u8))
  (hx:VRel φ σ (.str l) c):∃ φ' w' c',(convert s d c).run P w=.ok c' w'∧Step φ σ H w φ' σ (put H r (.cells (zCQ l))) w'∧VRel φ' σ (.sl r 0 l.length 1) c':=by
 cases hx with
 | str _ b hb =>
  have h1:=run_bytes_of_string w s d e b hs hd he
  have hdr:=z5g hr
  have hlen:b.size=l.length:=by rw [←hb,lC7];rfl
  have hcap:b.size≤grownCap w b.size 0 e:=by
   have:=run_choose (P:=P) (w:=w) (Question.appendCap b.size 0 e)
   simp only [grownCap,Question.cut];omega
  generalize hC:bytesRow b (grownCap w b.size 0 e)=C at h1
  have hCs:C.size=grownCap w b.size 0 e:=by
   have e0:b.data.size=b.size:=rfl
   rw [←hC];unfold bytesRow;rw [Array.size_append,Array.size_map,Array.size_replicate];omega
  refine ⟨z2B φ r ⟨w.heap.size,0,C.size⟩,_,_,h1,hdr.trans (z4Z (e:=C.size) hdr.hrel hf ⟨C,e,(C.size,C.size+1),heap_alloc_new _ _,rfl,?_,?_,?_,?_⟩ rfl),?_⟩
  ·simp only [zCQ,lAE,lBN,hCs];omega
  ·intro j _ h
   have h:j<C.size:=h
   show ¬ (C.size≤j∧j<C.size+1)
   omega
  ·intro i hi
   simp only [zCQ,lAE] at hi
   have hi2:i<b.data.toList.length:=by rw [hb];exact hi
   have e1:C.getD (0+i) undef=.int .u8 (l[i]'hi).toNat:=by
    rw [←hC,lBN]
    simp only [bytesRow,lAR]
    rw [lB8 (by simpa using hi2)]
    subst hb
    simp only [lC7] at hi2
    rw [Array.getElem?_map,lBY hi2]
    simp
   rw [e1]
   have e2:(zCQ l).getD i .top=.int .u8 (l[i]'hi).toNat:=by simp [zCQ,lAB,hi]
   rw [e2]
   exact .int _ _
  ·intro j _
   cases hσ:σ w.drew.heap.size j with
   | none=>rfl
   | some v =>
    have:=World.block_lt_of_cell? w.drew _ (hdr.hrel.sig _ _ _ hσ)
    simp [at_] at this
  ·rw [hlen]
   have:=VRel.sl (σ:=σ) (φ:=z2B φ r ⟨w.heap.size,0,C.size⟩) r 0 l.length 1 (grownCap w b.size 0 e) ⟨w.heap.size,0,C.size⟩ (by simp [z2B]) (by omega) (by simp [hCs])
   rw [hlen] at this
   exact this
theorem z9k:∀ {ys:List AV} {l:List UInt8} {arr:List Value},z5f ys=some l→ys.length=arr.length→(∀ i,VRel φ σ (ys.getD i .top) (arr.getD i undef)) →
  ∃ ns:List Int,arr=ns.map (Value.int .u8)∧l=ns.map fun n=>UInt8.ofNat n.toNat
 | [],l,arr,h,hl,hr=>by
  simp only [z5f] at h;injection h with h;subst h
  cases arr with
  | nil=>exact ⟨[],rfl,rfl⟩
  | cons=>simp at hl
 | y::ys,l,[],h,hl,hr=>by simp at hl
 | y::ys,l,c::arr,h,hl,hr=>by
  have h0:=hr 0
  simp only [List.getD_cons_zero] at h0
  unfold z5f at h
  split at h
  ·rename_i hq;cases hq
  ·rename_i n l' hq
   injection hq with hq1 hq2;subst hq1;subst hq2
   split at h
   ·rename_i r hr'
    injection h with h;subst h
    cases h0
    obtain ⟨ns,e1,e2⟩:=z9k hr' (by simpa using hl) (fun i=>by simpa using hr (i+1))
    exact ⟨n::ns,by simp [e1],by simp [e2]⟩
   ·cases h
  ·cases h
theorem zKE (ns:List Int):∀ r:ByteArray,(ns.foldl (fun (r:ByteArray) n=>r.push (UInt8.ofNat n.toNat)) r).data.toList=r.data.toList++ns.map fun n=>UInt8.ofNat n.toNat:=by
 induction ns with
 | nil=>intro r;simp
 | cons n ns ih=>intro r;rw [List.foldl_cons,ih];simp [ByteArray.push]
theorem zSb {s d e:TypeId} {n:Nat} {x:AV} {ys:List AV} {l:List UInt8} {c:Value} (hr:HRel φ σ H w) (hs:P.underlying s=some (.slice e)) (he:P.underlying e=some (.int .u8)) (hd:P.underlying d=some .string)
  (hx:VRel φ σ x c) (hy:z1m 1 H x=some (n,ys)) (hl:z5f ys=some l):∃ c',(convert s d c).run P w=.ok c' w∧VRel φ σ (.str l) c':=by
 obtain ⟨h1,h2,arr,h3,h4⟩:=z5k (P:=P) hr hx hy
 obtain ⟨a,m,cp,rfl⟩:∃ a m cp,c=.slice a m cp:=by
  unfold z1m at hy
  split at hy
  ·cases hx;exact ⟨_,_,_,rfl⟩
  ·cases hx;exact ⟨_,_,_,rfl⟩
  ·cases hx<;>exact ⟨_,_,_,rfl⟩
  ·cases hy
 rw [run_convert_bytes_string w s d e a m cp hs he hd]
 obtain ⟨ns,e1,e2⟩:=z9k (arr:=arr.toList) hl (by simpa using h4.1) (fun i=>by rw [z1S];exact h4.2 i)
 have earr:arr=(ns.map (Value.int .u8)).toArray:=by rw [←e1]
 cases a with
 | none =>
  simp only [Builtin.firstCells,Sem.run_pure] at h3
  injection h3 with h3
  have:ns=[]:=by
   rw [←h3] at earr
   have:=congrArg Array.size earr
   simp at this
   exact List.eq_nil_of_length_eq_zero this.symm
  subst this
  exact ⟨.string .empty,by simp [Conv.bytesToString],.str _ _ (by rw [e2];rfl)⟩
 | some a =>
  simp only [Builtin.lenOf,Sem.run_pure] at h1
  injection h1 with h1
  subst h1
  simp only [Builtin.firstCells,lCA] at h3
  refine ⟨_,run_bytesToString w a m cp ns (by rw [h3,earr]),.str _ _ ?_⟩
  rw [zKE,e2];rfl
theorem zMt {t e ty:TypeId} {sz:Nat} {zs:List AV} {x v:AV} {c:Value} {H':z0B} {r:Nat} (hr:HRel φ σ H w) (hu:P.underlying t=some (.slice e)) (hz:z5d P e=some zs) (hzl:zs.length=sz)
  (hx:VRel φ σ x c) (hd:zKg (.clearSl sz zs) [x] H r=some (v,H')):∃ w',(Builtin.clear_ #[t] ty #[c]).run P w=.ok (.tuple #[]) w'∧Step φ σ H w φ σ H' w'∧v=.top:=by
 simp only [zKg] at hd
 split at hd
 ·injection hd with hd;injection hd with h1 h2;subst h1;subst h2
  cases hx
  exact ⟨w,by simp [Builtin.clear_,run_underlying hu],.refl hr,rfl⟩
 ·injection hd with hd;injection hd with h1 h2;subst h1;subst h2
  cases hx with
  | list _ _ b o n cap f hsz hx hn h r =>
   simp at hx;subst hx
   exact ⟨w,by simp [Builtin.clear_,run_underlying hu],.refl hr,rfl⟩
  | elist _ a=>exact ⟨w,by simp [Builtin.clear_,run_underlying hu],.refl hr,rfl⟩
 ·rename_i id off n sz'
  split at hd
  ·rename_i e';subst e'
   split at hd
   ·rename_i cs hg
    split at hd
    ·rename_i hc
     injection hd with hd;injection hd with h1 h2;subst h1;subst h2
     simp only [lAQ,lAD,lAX] at hc
     cases hx with
     | sl _ _ _ _ cap L hp hn hcp =>
      obtain ⟨z,z1,z2⟩:=z3J (φ:=φ) (σ:=σ) (w:=w) hz
      have hcr:=z6X (k:=n) z2
      have hmul:n*zs.length=n*sz:=by rw [hzl]
      have hle:L.o+off+n*sz≤L.e:=by have:=lDF sz hn;omega
      obtain ⟨w',r1,r2⟩:=z8T (P:=P) (off:=off) (vs:=z1J n zs) (ws:=((Array.range (n*zs.length)).map fun i=>z.cells[i % z.cells.size]!).toList) hr hg hp
       (by rw [hcr.1];simp) (fun i=>by rw [z1S];exact hcr.2 i) (fun q hq=>by
        simp only [z1J,List.mem_flatten,List.mem_replicate] at hq
        obtain ⟨l,⟨_,rfl⟩,hq⟩:=hq
        exact hc.2 _ hq) (by omega) (by rw [z3Z,hmul];exact hle)
      refine ⟨w',?_,r2,rfl⟩
      have hzc:(Builtin.zeroCells z.cells n)=(Array.range (n*zs.length)).map fun i=>z.cells[i % z.cells.size]!:=by
       rw [z2.1];rfl
      cases n with
      | zero =>
       simp only [Nat.zero_mul] at r1
       have:(Array.map (fun i=>z.cells[i % z.cells.size]!) (Array.range 0)).toList=[]:=by simp
       rw [this] at r1
       simp only [storeCells,Sem.run_pure] at r1
       simp only [Builtin.clear_,Sem.run_bind,run_underlying hu,Result.andThen_ok,lCP,lA0,Sem.run_pure]
       injection r1 with _ r1
       rw [r1]
      | succ n =>
       simp only [Builtin.clear_,Sem.run_bind,run_underlying hu,Result.andThen_ok,lCP,lA0,z1,hzc,r1,Sem.run_pure]
    ·cases hd
   ·cases hd
  ·cases hd
 ·cases hd
end Go.Ab
namespace Go.Ab
variable {P:Program} {φ:Phi} {σ:Sig} {H:z0B} {w:World}
theorem zGq {t xt ty e:TypeId} {r sz:Nat} {zs:List AV} {i:TypeInfo} {k k':IntKind} {n:Int} (hr:HRel φ σ H w) (hf:z8t H r)
  (hu:P.underlying t=some (.slice e)) (hi:P.info? e=some i) (hsz:i.size=sz) (hz:z5d P e=some zs) (hzl:zs.length=sz) (hs0:0<sz)
  (hxu:P.underlying xt=some (.int k)) (h0:0<n) (hb:n≤1073741824) (hb2:n*i.bytes≤1073741824) :
  ∃ c' φ' w',(Builtin.append_ #[t,xt] ty #[.slice none 0 0,.int k' n]).run P w=.ok c' w'∧Step φ σ H w φ' σ (put H r (.cells (z1J n.toNat zs))) w'∧VRel φ' σ (.sl r 0 n.toNat sz) c':=by
 obtain ⟨m,rfl⟩:∃ m:Nat,n=(m:Int):=⟨n.toNat,by omega⟩
 have hs3:z1n P e=some sz:=by simp [z1n,hi,hsz]
 have h3:=fun w=>z1P (P:=P) (w:=w) hs3
 have hdr:=z5g hr
 obtain ⟨z,z1,z2⟩:=z3J (φ:=φ) (σ:=σ) (w:=w) hz
 have z1':∀ w,(zeroValue e).run P w=.ok z w:=by
  intro w'
  unfold zeroValue typeInfo at z1 ⊢
  simp only [Sem.run_bind,run_program,Result.andThen_ok,hi,Sem.run_pure] at z1 ⊢
  cases hzz:i.zero with
  | none=>rw [hzz] at z1;simp at z1
  | some q=>rw [hzz] at z1;simp at z1 ⊢;exact z1
 have hzc:∀ j,Builtin.zeroCells z.cells j=(Array.range (j*zs.length)).map fun i=>z.cells[i % z.cells.size]!:=by
  intro j;rw [z2.1];rfl
 have hcr:=z6X (k:=m) z2
 generalize hT:w.tape w.drawn (.appendCap m 0 e)=T
 obtain ⟨φ',w',e1,e2,e3⟩:=zBz (P:=P) (t:=e) (r:=r) (rest:=Builtin.zeroCells z.cells (m+T % (2 ^ 63-m)-m)) hdr.hrel hf hcr
 have hch:(choose (Question.appendCap m 0 e)).run P w=.ok (m+T % (2 ^ 63-m)) w.drew:=by
  rw [run_choose]
  simp only [Question.forced,lAV,if_false,Question.cut,hT]
  rfl
 have hwm:IntKind.i64.wrap (m:Int)=m:=by unfold IntKind.wrap;simp [IntKind.bits,IntKind.signed];omega
 have hti:∀ w,(typeInfo e).run P w=.ok i w:=fun w=>by simp [typeInfo,hi]
 refine ⟨.slice (some (at_ w.heap.size 0)) m (m+T % (2 ^ 63-m)),φ',w',?_,hdr.trans e2,?_⟩
 ·have hcap:Builtin.nextslicecap m 0=m:=by
   unfold Builtin.nextslicecap
   rw [if_pos (by omega)]
  have c1:¬ ((m:Int)<0):=by omega
  have c2:¬ ((m:Int)*i.bytes>2 ^ 48):=by omega
  have c3:¬ (m≤0):=by omega
  have c4:¬ ((m:Int)>IntKind.i64.max):=by
   simp only [IntKind.max_i64];omega
  have c5:¬ (Builtin.nextslicecap m 0*i.bytes>2 ^ 48):=by
   rw [hcap]
   have:((m*i.bytes:Nat):Int)≤1073741824:=by rw [Int.natCast_mul];exact hb2
   omega
  have c6:¬ (m*sz=0):=by
   have:=Nat.mul_pos (show 0<m by omega) hs0;omega
  simp only [Builtin.append_,lCP,lA0,lBD,Sem.run_bind,z0C hu,z0C hxu,Result.andThen_ok,h3,Sem.run_pure]
  simp only [if_true,Bool.true_eq_false,asInt,asIntOf,Sem.run_bind,Sem.run_pure,Result.andThen_ok,hwm,c1,c2,if_false,hti,lDX,c3,c4,false_and,c5,c6,lBN,Nat.zero_mul,
   lDL,lAV,hch,run_askRoom,Builtin.firstCells,z1',true_or,and_true]
  rw [Array.empty_append,hzc m,e1]
  rfl
 ·refine .sl r 0 _ sz _ _ e3 (by simp) ?_
  have hzs:z.cells.size=zs.length:=z2.1.symm
  have hd:m+T % (2 ^ 63-m)-m=T % (2 ^ 63-m):=by omega
  simp only [Builtin.zeroCells,Array.size_map,Array.size_range,hzs,hzl,hd,lBN,lCH]
  exact lAL _
end Go.Ab
