/- Part 1 of the proof. -/
import Derived.Laws.Entries
import Derived.Laws.Slices
import Derived.Test.YtagcckioikbanaaGreatDoorM00
set_option linter.unusedVariables false
set_option linter.unusedSimpArgs false
namespace Go.Ab
inductive Arg where
 | tmp (t:Nat)
 | const (v:AV)
 deriving Inhabited
def aev (env:Env):Arg→AV
 | .tmp t=>env.get t
 | .const v=>v
def zCb:Value→Option AV
 | .bool b=>some (.bool b)
 | .int k n=>some (.int k n)
 | .string s=>some (.str s.data.toList)
 | .pointer none=>some .nilptr
 | .slice none 0 0=>some .nilslice
 | .map none=>some .nilmap
 | .nilFunc=>some .nilfunc
 | .nilIface=>some .niliface
 | _=>none
theorem z9q {φ:Phi} {σ:Sig} {v:Value} {x:AV} (h:zCb v=some x):VRel φ σ x v:=by
 unfold zCb at h
 split at h<;>first
  | (injection h with h;subst h;constructor;done)
  | (injection h with h;subst h;exact .str _ _ rfl)
  | cases h
def zBJ:List Value→Option (List AV)
 | []=>some []
 | v::vs=>match zCb v,zBJ vs with
  | some x,some xs=>some (x::xs)
  | _,_=>none
theorem z9p {φ:Phi} {σ:Sig}:∀ {vs:List Value} {xs:List AV},zBJ vs=some xs →
  xs.length=vs.length∧∀ i,VRel φ σ (xs.getD i .top) (vs.getD i undef)
 | [],xs,h=>by
  simp only [zBJ] at h
  injection h with h
  subst h
  exact ⟨rfl,fun i=>by simpa using VRel.top _⟩
 | v::vs,xs,h=>by
  simp only [zBJ] at h
  split at h
  ·rename_i x ys hx hys
   injection h with h
   subst h
   obtain ⟨hl,hr⟩:=z9p (φ:=φ) (σ:=σ) hys
   refine ⟨by simp [hl],fun i=>?_⟩
   cases i with
   | zero=>simpa using z9q hx
   | succ i=>simpa using hr i
  ·cases h
def zNk:Value→Option AV
 | .agg cs=>(zBJ cs.toList).map .agg
 | .tuple cs=>(zBJ cs.toList).map .tuple
 | .iface t v=>(zCb v).map (.iface t)
 | v=>zCb v
theorem z1S (cs:Array Value) (i:Nat):cs.toList.getD i undef=cs.getD i undef:=by
 cases cs;simp [lAR]
theorem z9N {φ:Phi} {σ:Sig} {v:Value} {x:AV} (h:zNk v=some x):VRel φ σ x v:=by
 unfold zNk at h
 split at h
 ·rename_i cs
  cases hh:zBJ cs.toList with
  | none=>simp [hh] at h
  | some xs =>
   simp only [hh,lBH] at h
   injection h with h
   subst h
   obtain ⟨hl,hr⟩:=z9p (φ:=φ) (σ:=σ) hh
   exact .agg _ _ (by simpa using hl) fun i=>by rw [←z1S];exact hr i
 ·rename_i cs
  cases hh:zBJ cs.toList with
  | none=>simp [hh] at h
  | some xs =>
   simp only [hh,lBH] at h
   injection h with h
   subst h
   obtain ⟨hl,hr⟩:=z9p (φ:=φ) (σ:=σ) hh
   exact .tuple _ _ (by simpa using hl) fun i=>by rw [←z1S];exact hr i
 ·rename_i t v
  cases hh:zCb v with
  | none=>simp [hh] at h
  | some y =>
   simp only [hh,lBH] at h
   injection h with h
   subst h
   exact .iface _ _ _ (z9q hh)
 ·exact z9q h
def zQk:Operand→Option Arg
 | .tmp t=>some (.tmp t)
 | .const v=>(zNk v).map .const
 | .global g=>some (.const (.glob g))
 | .func f=>some (.const (.clo (.func f) [] []))
theorem zJD {φ:Phi} {σ:Sig} {x:Operand} {y:Arg} {env:Env} {a:Act} (h:zQk x=some y) (er:ERel φ σ env a.tmps) :
  VRel φ σ (aev env y) (a.eval x):=by
 cases x with
 | tmp t=>simp only [zQk] at h;injection h with h;subst h;exact er.get t
 | const v =>
  simp only [zQk] at h
  cases hh:zNk v with
  | none=>simp [hh] at h
  | some u=>simp only [hh,lBH] at h;injection h with h;subst h;exact z9N hh
 | global g=>simp only [zQk] at h;injection h with h;subst h;exact .glob g
 | func f =>
  simp only [zQk] at h;injection h with h;subst h
  exact .clo _ _ _ _ _ rfl rfl (fun i=>by simpa using VRel.top _) (fun i=>by simpa using VRel.top _)
def z9M:List Operand→Option (List Arg)
 | []=>some []
 | x::xs=>match zQk x,z9M xs with
  | some y,some ys=>some (y::ys)
  | _,_=>none
theorem zKR {x:Operand} {xs:List Operand} {l:List Arg} (h:z9M (x::xs)=some l) :
  ∃ y ys,zQk x=some y∧z9M xs=some ys∧l=y::ys:=by
 simp only [z9M] at h
 split at h
 ·rename_i y ys h1 h2;injection h with h;exact ⟨y,ys,h1,h2,h.symm⟩
 ·cases h
theorem zMx {l:List Arg} (h:z9M []=some l):l=[]:=by simp only [z9M] at h;injection h with h;exact h.symm
theorem zFe {φ:Phi} {σ:Sig} {env:Env} {a:Act} (er:ERel φ σ env a.tmps):∀ {xs:List Operand} {ys:List Arg},z9M xs=some ys →
  ys.length=xs.length∧∀ i,VRel φ σ ((ys.map (aev env)).getD i .top) ((xs.map a.eval).getD i undef)
 | [],ys,h=>by cases zMx h;exact ⟨rfl,fun i=>by simpa using VRel.top _⟩
 | x::xs,l,h=>by
  obtain ⟨y,ys,h1,h2,rfl⟩:=zKR h
  obtain ⟨hl,hr⟩:=zFe er h2
  refine ⟨by simp [hl],fun i=>?_⟩
  cases i with
  | zero=>simpa using zJD h1 er
  | succ i=>simpa using hr i
inductive EqD where
 | bool | ptr | slice | map | func | iface
 deriving DecidableEq
inductive EK where
 | int
 | str
 | bool
inductive DOp where
 | move
 | pick
 | build (zero:List AV) (places:List (Nat × Nat))
 | nilCheck
 | bin (op:BinOp)
 | eqv (neg:Bool) (d:EqD)
 | eqs (neg:Bool) (ks:List EK)
 | un (op:UnOp)
 | conv (k:IntKind)
 | convStr
 | mkIface (t:TypeId)
 | mkFunc (fn:Fn) (nf:Nat)
 | sliceStr (lo hi:Bool)
 | sliceSl (sz:Nat) (lo hi:Bool)
 | sliceSl3 (sz:Nat) (lo:Bool)
 | fieldAddr (off:Nat)
 | field (off:Nat) (n:Option Nat)
 | idxAddr (sz:Nat)
 | idxAddrArr (len sz:Nat)
 | idxStr
 | idxArr (len sz:Nat) (agg:Bool)
 | assertTo (t:TypeId) (commaOk:Bool) (zero:AV)
 | extract (i:Nat)
 | lenStr
 | len
 | lenArr (n:Nat)
 | min
 | max
def z4m (cs:List AV) (off:Nat) (vs:List AV):List AV :=
 cs.take off++vs++cs.drop (off+vs.length)
def AV.shaped:AV→Bool
 | .top=>false
 | _=>true
def z5M:List AV→List (Nat × Nat)→List AV→Option (List AV)
 | cells,[],[]=>some cells
 | cells,(off,size)::ps,v::vs =>
  if v.shaped&&v.cells.length==size&&off+size≤cells.length then z5M (z4m cells off v.cells) ps vs else none
 | _,_,_=>none
def z3q (op:BinOp) (k:IntKind) (a b:Int):Option AV :=
 match op with
 | .add=>some (.int k (k.wrap (a+b)))
 | .sub=>some (.int k (k.wrap (a-b)))
 | .mul=>some (.int k (k.wrap (a*b)))
 | .quo=>if b=0 then none else some (.int k (k.wrap (a.tdiv b)))
 | .rem=>if b=0 then none else some (.int k (a.tmod b))
 | .and=>some (.int k (k.wrap (BitVec.ofInt k.bits a &&& BitVec.ofInt k.bits b).toNat))
 | .or=>some (.int k (k.wrap (BitVec.ofInt k.bits a ||| BitVec.ofInt k.bits b).toNat))
 | .xor=>some (.int k (k.wrap (BitVec.ofInt k.bits a ^^^ BitVec.ofInt k.bits b).toNat))
 | .andNot=>some (.int k (k.wrap (BitVec.ofInt k.bits a &&& ~~~ BitVec.ofInt k.bits b).toNat))
 | .eql=>some (.bool (a==b))
 | .neq=>some (.bool (a != b))
 | .lss=>some (.bool (a<b))
 | .leq=>some (.bool (a≤b))
 | .gtr=>some (.bool (a>b))
 | .geq=>some (.bool (a≥b))
 | .shl | .shr=>none
def z6A (op:BinOp) (a b:List UInt8):Option AV :=
 match op with
 | .add=>if ((a.length+b.length:Nat):Int)≤9223372036854775807 then some (.str (a++b)) else none
 | .eql=>some (.bool (a==b))
 | .neq=>some (.bool (!(a==b)))
 | .lss=>some (.bool (Op.bytesLess a b))
 | .leq=>some (.bool (Op.bytesLess a b||a==b))
 | .gtr=>some (.bool (!(Op.bytesLess a b||a==b)))
 | .geq=>some (.bool (!Op.bytesLess a b))
 | _=>none
def zDV (op:BinOp) (x y:AV):Option AV :=
 match op,x,y with
 | .shl,.int k a,.int _ b=>if b<0 then none else some (.int k (k.wrap (a*2 ^ (Nat.min b.toNat k.bits))))
 | .shr,.int k a,.int _ b=>if b<0 then none else some (.int k (a.fdiv (2 ^ (Nat.min b.toNat k.bits))))
 | op,.int k a,.int k' b=>if k=k' then z3q op k a b else none
 | op,.str a,.str b=>z6A op a b
 | _,_,_=>none
def AV.isPtr:AV→Bool
 | .ptr .. | .cptr .. | .glob .. => true
 | _=>false
def AV.isSlice:AV→Bool
 | .sl .. | .list .. => true
 | _=>false
def zXe (d:EqD) (x y:AV):Option Bool :=
 match d,x,y with
 | .bool,.bool a,.bool b=>some (a==b)
 | .ptr,.nilptr,.nilptr=>some true
 | .ptr,.nilptr,y=>if y.isPtr then some false else none
 | .ptr,x,.nilptr=>if x.isPtr then some false else none
 | .slice,.nilslice,.nilslice=>some true
 | .slice,.nilslice,y=>if y.isSlice then some false else none
 | .slice,x,.nilslice=>if x.isSlice then some false else none
 | .map,.nilmap,.nilmap=>some true
 | .map,.nilmap,.map _=>some false
 | .map,.map _,.nilmap=>some false
 | .func,.nilfunc,.nilfunc=>some true
 | .func,.nilfunc,.clo .. => some false
 | .func,.clo ..,.nilfunc=>some false
 | .iface,.niliface,.iface .. => some false
 | .iface,.iface ..,.niliface=>some false
 | _,_,_=>none
def zKH:List EK→List AV→List AV→Option Bool
 | [],[],[]=>some true
 | .int::ks,.int k a::xs,.int k' b::ys=>if k=k' then (zKH ks xs ys).map fun r=>a==b&&r else none
 | .str::ks,.str a::xs,.str b::ys=>(zKH ks xs ys).map fun r=>a==b&&r
 | .bool::ks,.bool a::xs,.bool b::ys=>(zKH ks xs ys).map fun r=>a==b&&r
 | _,_,_=>none
def dun (op:UnOp) (x:AV):Option AV :=
 match op,x with
 | .neg,.int k n=>some (.int k (k.wrap (0-n)))
 | .not,.bool b=>some (.bool (!b))
 | _,_=>none
def z2f (n:Nat) (lo hi:Bool) (args:List AV):Option (Nat × Nat) :=
 match lo,hi,args with
 | false,false,[]=>some (0,n)
 | true,false,[.int _ l]=>if 0≤l∧l≤n then some (l.toNat,n) else none
 | false,true,[.int _ h]=>if 0≤h∧h≤n then some (0,h.toNat) else none
 | true,true,[.int _ l,.int _ h]=>if 0≤h∧h≤n∧0≤l∧l≤h then some (l.toNat,h.toNat) else none
 | _,_,_=>none
def z8G (sz:Nat) (lo hi:Bool) (x:AV) (args:List AV):Option AV :=
 match x with
 | .nilslice=>match z2f 0 lo hi args with
  | some _=>some .nilslice
  | none=>none
 | .sl id off n sz' =>
  if sz=sz' then match z2f n lo hi args with
   | some (l,h)=>if lo&&l==h then some (.list sz []) else some (.sl id (off+l*sz) (h-l) sz)
   | none=>none
  else none
 | .list sz' xs =>
  if sz=sz' then match z2f xs.length lo hi args with
   | some (l,h)=>some (.list sz ((xs.drop l).take (h-l)))
   | none=>none
  else none
 | _=>none
def z4T (n:Nat) (lo:Bool) (args:List AV):Option (Nat × Nat) :=
 match lo,args with
 | false,[.int _ h,.int _ m]=>if 0≤h∧h≤n∧m=h then some (0,h.toNat) else none
 | true,[.int _ l,.int _ h,.int _ m]=>if 0≤h∧h≤n∧0≤l∧l≤h∧m=h then some (l.toNat,h.toNat) else none
 | _,_=>none
def z8n (sz:Nat) (lo:Bool) (x:AV) (args:List AV):Option AV :=
 match x with
 | .nilslice=>match z4T 0 lo args with
  | some _=>some .nilslice
  | none=>none
 | .list sz' xs =>
  if sz=sz' then match z4T xs.length lo args with
   | some (l,h)=>some (.list sz ((xs.drop l).take (h-l)))
   | none=>none
  else none
 | _=>none
def z3L (n:Option Nat) (cs:List AV) (off:Nat):Option AV :=
 match n with
 | none=>cs[off]?
 | some k=>if off+k≤cs.length then some (.agg ((cs.drop off).take k)) else none
def z1W (d:DOp) (args:List AV):Option AV :=
 match d,args with
 | .move,[x]=>some x
 | .pick,[.bool c,a,b]=>some (if c then a else b)
 | .build zero places,vs=>(z5M zero places vs).map .agg
 | .nilCheck,[x]=>match x with
  | .ptr .. | .cptr .. | .glob .. | .clo (.func _) _ _=>some x
  | _=>none
 | .bin op,[x,y]=>zDV op x y
 | .eqs neg ks,[.agg xs,.agg ys]=>(zKH ks xs ys).map fun b=>.bool (if neg then !b else b)
 | .eqv neg d,[x,y]=>(zXe d x y).map fun b=>.bool (if neg then !b else b)
 | .un op,[x]=>dun op x
 | .conv k,[.int _ n]=>some (.int k (k.wrap n))
 | .convStr,[.str s]=>some (.str s)
 | .mkIface t,[v]=>some (.iface t v)
 | .mkFunc fn nf,vs=>some (.clo fn (vs.take nf) (vs.drop nf))
 | .sliceStr lo hi,.str s::bs=>match z2f s.length lo hi bs with
  | some (l,h)=>some (.str ((s.drop l).take (h-l)))
  | none=>none
 | .sliceSl sz lo hi,x::bs=>z8G sz lo hi x bs
 | .sliceSl3 sz lo,x::bs=>z8n sz lo x bs
 | .fieldAddr off,[x]=>match x with
  | .ptr id o=>some (.ptr id (o+off))
  | .cptr cs=>some (.cptr (cs.drop off))
  | _=>none
 | .field off n,[.agg cs]=>z3L n cs off
 | .idxAddr sz,[x,.int _ i]=>match x with
  | .sl id off n sz'=>if sz=sz'∧0≤i∧i<n then some (.ptr id (off+i.toNat*sz)) else none
  | .list sz' xs=>if sz=sz'∧0≤i∧i<xs.length then some (.cptr (xs.getD i.toNat .top).cells) else none
  | _=>none
 | .idxAddrArr len sz,[x,.int _ i]=>if 0≤i∧i<len then match x with
   | .ptr id off=>some (.ptr id (off+i.toNat*sz))
   | .cptr cs=>some (.cptr (cs.drop (i.toNat*sz)))
   | _=>none
  else none
 | .idxStr,[.str s,.int _ i]=>if 0≤i then match s[i.toNat]? with
   | some b=>some (.int .u8 b.toNat)
   | none=>none
  else none
 | .idxArr len sz agg,[.agg cs,.int _ i]=>if 0≤i∧i<len then z3L (if agg then some sz else none) cs (i.toNat*sz) else none
 | .assertTo t ok zero,[.iface t' v]=>if t'=t then some (if ok then .tuple [v,.bool true] else v) else if ok then some (.tuple [zero,.bool false]) else none
 | .assertTo _ ok zero,[.niliface]=>if ok then some (.tuple [zero,.bool false]) else none
 | .extract i,[.tuple vs]=>vs[i]?
 | .lenStr,[.str s]=>some (.int .i64 s.length)
 | .len,[x]=>match x with
  | .nilslice=>some (.int .i64 0)
  | .sl _ _ n _=>some (.int .i64 n)
  | .list _ xs=>some (.int .i64 xs.length)
  | _=>none
 | .lenArr n,_=>some (.int .i64 n)
 | .min,[.int k x,.int _ y]=>some (.int k (if y<x then y else x))
 | .max,[.int k x,.int _ y]=>some (.int k (if y>x then y else x))
 | _,_=>none
end Go.Ab
