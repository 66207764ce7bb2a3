/- Part 0 of the proof. -/
import Derived.Below
import Derived.Calls
import Derived.Orders
import Derived.Deep.LoopGhost
set_option linter.unusedVariables false
set_option linter.unusedSimpArgs false
set_option linter.defProp false
def lAA:=@List.getElem?_eq_some_iff
def lAB:=@List.getD_eq_getElem?_getD
def lAC:=@decide_eq_false_iff_not
def lAD:=@decide_eq_true_eq
def lAE:=@List.length_map
def lAF:=@List.mem_of_getElem?
def lAG:=@List.getElem?_eq_getElem
def lAH:=@List.length_append
def lAJ:=@List.getElem?_append_right
def lAK:=@List.append_nil
def lAL:=@Nat.le_refl
def lAM:=@List.getElem?_map
def lAN:=@List.getElem?_append_left
def lAP:=@decide_eq_decide
def lAQ:=@Bool.and_eq_true
def lAR:=@Array.getD_eq_getD_getElem?
def lAS:=@List.take_of_length_le
def lAT:=@List.mem_cons
def lAU:=@List.getElem?_set_self
def lAV:=@Bool.false_eq_true
def lAW:=@List.take_length
def lAX:=@List.all_eq_true
def lAY:=@Nat.eq_of_beq_eq_true
def lAZ:=@List.mem_range
def lA0:=@List.getElem?_cons_zero
def lA1:=@List.mem_singleton
def lA2:=@List.append_assoc
def lA3:=@List.any_eq_true
def lA4:=@List.mem_map
def lA5:=@List.not_mem_nil
def lA6:=@List.map_cons
def lA7:=@List.getElem?_set
def lA8:=@List.mem_cons_of_mem
def lBA:=@List.take_add_one
def lBB:=@Nat.lt_or_ge
def lBC:=@List.set_append_right
def lBD:=@List.getElem?_cons_succ
def lBE:=@List.length_cons
def lBF:=@List.mem_append
def lBG:=@List.getElem?_eq_none
def lBH:=@Option.map_some
def lBJ:=@Nat.sub_self
def lBK:=@Nat.add_assoc
def lBL:=@List.drop_zero
def lBM:=@Nat.le_trans
def lBN:=@Nat.zero_add
def lBP:=@List.map_append
def lBQ:=@List.take_succ_cons
def lBR:=@List.mem_iff_getElem
def lBS:=@Array.toList_inj
def lBT:=@List.getElem_mem
def lBU:=@List.flatMap_cons
def lBV:=@List.any_eq_false
def lBW:=@List.mem_flatMap
def lBX:=@Bool.or_eq_true
def lBY:=@Array.getElem?_eq_getElem
def lBZ:=@List.flatMap_append
def lB0:=@List.map_map
def lB1:=@Option.getD_some
def lB2:=@List.mem_cons_self
def lB3:=@List.drop_eq_getElem_cons
def lB4:=@List.all_cons
def lB5:=@List.cons_append
def lB6:=@Bool.eq_iff_iff
def lB7:=@List.length_singleton
def lB8:=@Array.getElem?_append_left
def lCA:=@Nat.mul_one
def lCB:=@Bool.not_eq_true
def lCC:=@List.mem_filter
def lCD:=@List.ext_getElem?
def lCE:=@List.getElem?_set_ne
def lCF:=@List.mem_of_mem_take
def lCG:=@List.drop_of_length_le
def lCH:=@Nat.add_mul
def lCJ:=@Bool.or_eq_false_iff
def lCK:=@List.length_set
def lCL:=@Bool.false_or
def lCM:=@List.getElem?_range
def lCN:=@Nat.ble_eq_true_of_le
def lCP:=@List.getElem?_toArray
def lCQ:=@List.mem_append_right
def lCR:=@Array.getElem?_setIfInBounds
def lCS:=@List.range_succ
def lCT:=@Bool.true_and
def lCU:=@List.findIdx?_eq_some_iff_getElem
def lCV:=@List.mem_append_left
def lCW:=@List.length_take
def lCX:=@Array.getElem?_eq_none
def lCY:=@beq_iff_eq
def lCZ:=@List.map_nil
def lC0:=@List.nil_append
def lC1:=@Nat.lt_succ_iff_lt_or_eq
def lC2:=@List.isEmpty_iff
def lC3:=@List.length_drop
def lC4:=@Nat.add_sub_cancel_left
def lC5:=@Bool.not_eq_true'
def lC6:=@List.getElem_of_mem
def lC7:=@Array.length_toList
def lC8:=@Option.map_eq_some_iff
def lDA:=@List.getElem?_drop
def lDB:=@List.set_eq_take_append_cons_drop
def lDC:=@List.pairwise_cons
def lDD:=@List.pairwise_iff_getElem
def lDE:=@List.findIdx?_eq_none_iff
def lDF:=@Nat.mul_le_mul_right
def lDG:=@List.mem_of_mem_drop
def lDH:=@Nat.blt_eq
def lDJ:=@List.idxOf_lt_length_iff
def lDK:=@List.any_append
def lDL:=@Bool.not_true
def lDM:=@List.mem_map_of_mem
def lDN:=@List.flatMap_nil
def lDP:=@Array.toList_map
def lDQ:=@List.drop_length
def lDR:=@List.drop_eq_nil_of_le
def lDS:=@List.pairwise_lt_range
def lDT:=@Nat.add_zero
def lDU:=@Nat.le_of_ble_eq_true
def lDV:=@List.take_append_drop
def lDW:=@List.length_nil
def lDX:=@Int.toNat_natCast
def lDY:=@List.map_drop
def lDZ:=@List.map_take
def lD0:=@Array.getElem?_eq_some_iff
def lD1:=@List.set_append_left
def lD2:=@List.map_congr_left
def lD3:=@List.replicate_succ
def lD4:=@List.length_pos_iff
def lD5:=@Bool.true_or
def lD6:=@List.getElem?_take
def lD7:=@Nat.lt_of_lt_of_le
def lD8:=@Bool.false_and
def lEA:=@Nat.sub_zero
namespace Go.Ab
inductive AV where
 | top
 | bool (b:Bool)
 | int (k:IntKind) (n:Int)
 | str (s:List UInt8)
 | nilptr
 | ptr (id off:Nat)
 | cptr (cells:List AV)
 | glob (g:Nat)
 | nilslice
 | sl (id off n sz:Nat)
 | list (sz:Nat) (xs:List AV)
 | nilmap
 | map (id:Nat)
 | nilfunc
 | clo (fn:Fn) (first caps:List AV)
 | niliface
 | iface (t:TypeId) (v:AV)
 | agg (cells:List AV)
 | tuple (vs:List AV)
 deriving Inhabited
def AV.cells:AV→List AV
 | .agg cs=>cs
 | v=>[v]
def z0j (xs:List AV):List AV:=xs.flatMap AV.cells
structure Loc where
 b:Nat
 o:Nat
 e:Nat
abbrev Phi:=Nat→Option Loc
abbrev Sig:=Nat→Nat→Option Value
def at_ (b o:Nat):Addr:=⟨b,o,none⟩
inductive VRel (φ:Phi) (σ:Sig):AV→Value→Prop
 | top (v:Value):VRel φ σ .top v
 | bool (b:Bool):VRel φ σ (.bool b) (.bool b)
 | int (k:IntKind) (n:Int):VRel φ σ (.int k n) (.int k n)
 | str (l:List UInt8) (s:ByteArray) (h:s.data.toList=l):VRel φ σ (.str l) (.string s)
 | nilptr:VRel φ σ .nilptr (.pointer none)
 | ptr (id off:Nat) (L:Loc) (h:φ id=some L):VRel φ σ (.ptr id off) (.pointer (some (at_ L.b (L.o+off))))
 | cptr (cs:List AV) (b o:Nat) (f:Nat→Value) (h:∀ i,i<cs.length→σ b (o+i)=some (f i))
   (r:∀ i,VRel φ σ (cs.getD i .top) (f i)):VRel φ σ (.cptr cs) (.pointer (some (at_ b o)))
 | glob (g:Nat):VRel φ σ (.glob g) (.pointer (some (at_ g 0)))
 | nilslice:VRel φ σ .nilslice (.slice none 0 0)
 | sl (id off n sz cap:Nat) (L:Loc) (h:φ id=some L) (hn:n≤cap) (hc:L.o+off+cap*sz≤L.e) :
   VRel φ σ (.sl id off n sz) (.slice (some (at_ L.b (L.o+off))) n cap)
 | list (sz:Nat) (xs:List AV) (b o n cap:Nat) (f:Nat→Value) (hsz:∀ x∈xs,x.cells.length=sz) (hx:xs.length=n) (hn:n≤cap)
   (h:∀ i,i<(z0j xs).length→σ b (o+i)=some (f i)) (r:∀ i,VRel φ σ ((z0j xs).getD i .top) (f i)) :
   VRel φ σ (.list sz xs) (.slice (some (at_ b o)) n cap)
 | elist (sz:Nat) (a:Addr):VRel φ σ (.list sz []) (.slice (some a) 0 0)
 | nilmap:VRel φ σ .nilmap (.map none)
 | map (id:Nat) (L:Loc) (h:φ id=some L):VRel φ σ (.map id) (.map (some L.b))
 | nilfunc:VRel φ σ .nilfunc .nilFunc
 | clo (fn:Fn) (fs cs:List AV) (fs' cs':Array Value) (hf:fs.length=fs'.size) (hc:cs.length=cs'.size)
   (rf:∀ i,VRel φ σ (fs.getD i .top) (fs'.getD i undef)) (rc:∀ i,VRel φ σ (cs.getD i .top) (cs'.getD i undef)) :
   VRel φ σ (.clo fn fs cs) (.func fn fs' cs')
 | niliface:VRel φ σ .niliface .nilIface
 | iface (t:TypeId) (v:AV) (v':Value) (r:VRel φ σ v v'):VRel φ σ (.iface t v) (.iface t v')
 | agg (cs:List AV) (cs':Array Value) (h:cs.length=cs'.size) (r:∀ i,VRel φ σ (cs.getD i .top) (cs'.getD i undef)) :
   VRel φ σ (.agg cs) (.agg cs')
 | tuple (cs:List AV) (cs':Array Value) (h:cs.length=cs'.size) (r:∀ i,VRel φ σ (cs.getD i .top) (cs'.getD i undef)) :
   VRel φ σ (.tuple cs) (.tuple cs')
def zNT (φ φ':Phi):Prop:=∀ id L,φ id=some L→φ' id=some L
def zNS (σ σ':Sig):Prop:=∀ b o v,σ b o=some v→σ' b o=some v
theorem zNT.refl (φ:Phi):zNT φ φ:=fun _ _ h=>h
theorem zNS.refl (σ:Sig):zNS σ σ:=fun _ _ _ h=>h
theorem zNT.trans {a b c:Phi} (h:zNT a b) (k:zNT b c):zNT a c:=fun i L e=>k i L (h i L e)
theorem zNS.trans {a b c:Sig} (h:zNS a b) (k:zNS b c):zNS a c:=fun i o v e=>k i o v (h i o v e)
theorem VRel.mono {φ φ':Phi} {σ σ':Sig} (hp:zNT φ φ') (hs:zNS σ σ') {v:AV} {c:Value} (h:VRel φ σ v c):VRel φ' σ' v c:=by
 induction h with
 | top v=>exact .top v
 | bool b=>exact .bool b
 | int k n=>exact .int k n
 | str l s h=>exact .str l s h
 | nilptr=>exact .nilptr
 | ptr id off L h=>exact .ptr id off L (hp _ _ h)
 | cptr cs b o f h _ ih=>exact .cptr cs b o f (fun i hi=>hs _ _ _ (h i hi)) ih
 | glob g=>exact .glob g
 | nilslice=>exact .nilslice
 | sl id off n sz cap L h hn hc=>exact .sl id off n sz cap L (hp _ _ h) hn hc
 | list sz xs b o n cap f hsz hx hn h _ ih=>exact .list sz xs b o n cap f hsz hx hn (fun i hi=>hs _ _ _ (h i hi)) ih
 | elist sz a=>exact .elist sz a
 | nilmap=>exact .nilmap
 | map id L h=>exact .map id L (hp _ _ h)
 | nilfunc=>exact .nilfunc
 | clo fn fs cs fs' cs' hf hc _ _ ih1 ih2=>exact .clo fn fs cs fs' cs' hf hc ih1 ih2
 | niliface=>exact .niliface
 | iface t v v' _ ih=>exact .iface t v v' ih
 | agg cs cs' h _ ih=>exact .agg cs cs' h ih
 | tuple cs cs' h _ ih=>exact .tuple cs cs' h ih
inductive Blk where
 | dead
 | resv
 | cells (cs:List AV)
 | map (es:List (AV × AV × Nat)) (clock:Nat)
 | iter (m:Option Nat) (since:Nat) (seen:List Nat) (last:Nat)
 deriving Inhabited
def Blk.live:Blk→Bool
 | .dead | .resv=>false
 | _=>true
abbrev z0B:=List Blk
def zGv (φ:Phi) (m:Option Nat) (cm:Option Nat):Prop:=(m=none∧cm=none)∨∃ id b M,m=some id∧cm=some b∧φ id=some M∧M.b=b
def zKj (φ:Phi) (σ:Sig) (w:World) (L:Loc):Blk→Prop
 | .dead | .resv=>True
 | .cells cs=>∃ arr t fr,w.heap[L.b]? =some (.cells arr t fr)∧arr.size=L.e∧L.o+cs.length≤L.e ∧
   (∀ j,L.o≤j→j<L.e→¬ (fr.1≤j∧j<fr.2)) ∧
   (∀ i,i<cs.length→VRel φ σ (cs.getD i .top) (arr.getD (L.o+i) undef)) ∧
   (∀ j,L.o≤j→σ L.b j=none)
 | .map es clock=>∃ ces,w.heap[L.b]? =some (.map ces clock)∧ces.size=es.length ∧
   (∀ i (h:i<es.length) (h':i<ces.size),VRel φ σ (es[i]).1 (ces[i]).key∧VRel φ σ (es[i]).2.1 (ces[i]).val∧(es[i]).2.2=(ces[i]).born)
 | .iter m since seen last=>L.o=0∧∃ cm,w.heap[L.b]? =some (.mapIter cm since seen.toArray last)∧zGv φ m cm
structure HRel (φ:Phi) (σ:Sig) (H:z0B) (w:World):Prop where
 dom:∀ id L,φ id=some L→id<H.length
 bnd:∀ id L,φ id=some L→L.b<w.heap.size
 blk:∀ id b,H[id]? =some b→b.live=true→∃ L,φ id=some L∧zKj φ σ w L b
 inj:∀ id id' b b' L L',H[id]? =some b→b.live=true→H[id']? =some b'→b'.live=true →
  φ id=some L→φ id'=some L'→L.b=L'.b→id=id'
 sig:∀ b o v,σ b o=some v→w.cell? (at_ b o)=some v
 resv:∀ id:Nat,H[id]? =some Blk.resv→φ id=none
def zRS (φ:Phi) (H:z0B) (b:Nat):Prop:=∃ id blk L,H[id]? =some blk∧blk.live=true∧φ id=some L∧L.b=b
structure Step (φ:Phi) (σ:Sig) (H:z0B) (w:World) (φ':Phi) (σ':Sig) (H':z0B) (w':World):Prop where
 extP:zNT φ φ'
 extS:zNS σ σ'
 os:w'.os=w.os
 tape:w'.tape=w.tape
 output:w'.output=w.output
 size:w.heap.size≤w'.heap.size
 frame:∀ b,b<w.heap.size→¬ zRS φ H b→w'.heap[b]? =w.heap[b]?
 own:∀ b,zRS φ' H' b→w.heap.size≤b∨zRS φ H b
 hrel:HRel φ' σ' H' w'
theorem Step.refl {φ:Phi} {σ:Sig} {H:z0B} {w:World} (h:HRel φ σ H w):Step φ σ H w φ σ H w :=
 ⟨.refl _,.refl _,rfl,rfl,rfl,lAL _,fun _ _ _=>rfl,fun _ h=>.inr h,h⟩
theorem Step.trans {φ φ₁ φ₂:Phi} {σ σ₁ σ₂:Sig} {H H₁ H₂:z0B} {w w₁ w₂:World} (h:Step φ σ H w φ₁ σ₁ H₁ w₁)
  (k:Step φ₁ σ₁ H₁ w₁ φ₂ σ₂ H₂ w₂):Step φ σ H w φ₂ σ₂ H₂ w₂ where
 extP:=h.extP.trans k.extP
 extS:=h.extS.trans k.extS
 os:=k.os.trans h.os
 tape:=k.tape.trans h.tape
 output:=k.output.trans h.output
 size:=lBM h.size k.size
 frame:=by
  intro b hb hn
  rw [k.frame b (lD7 hb h.size),h.frame b hb hn]
  intro ho
  rcases h.own b ho with h1 | h1
  ·omega
  ·exact hn h1
 own:=by
  intro b hb
  rcases k.own b hb with h1 | h1
  ·exact .inl (lBM h.size h1)
  ·exact h.own b h1
 hrel:=k.hrel
def z3a (H H':z0B):Prop:=H.length≤H'.length∧∀ id:Nat,H[id]? =some Blk.resv→H'[id]? =some Blk.resv
theorem z3a.refl (H:z0B):z3a H H:=⟨lAL _,fun _ h=>h⟩
theorem z3a.trans {a b c:z0B} (h:z3a a b) (k:z3a b c):z3a a c:=⟨lBM h.1 k.1,fun i e=>k.2 i (h.2 i e)⟩
def z8N (φ:Phi) (σ:Sig) (cs:List AV) (vs:Array Value):Prop:=cs.length=vs.size∧∀ i,VRel φ σ (cs.getD i .top) (vs.getD i undef)
structure Env where
 n:Nat
 get:Nat→AV
def Env.set (e:Env) (d:Nat) (v:AV):Env:=bif Nat.blt d e.n then ⟨e.n,fun t=>bif Nat.beq d t then v else e.get t⟩ else e
def z2V:List (Nat × AV)→Nat→AV
 | [],_=>.top
 | p::l,t=>bif Nat.beq p.1 t then p.2 else z2V l t
def z1d (al:List (Nat × AV)):List Nat→List (Nat × AV)
 | []=>[]
 | k::ks=>(k,z2V al k)::z1d al ks
structure ERel (φ:Phi) (σ:Sig) (env:Env) (tmps:Array Value):Prop where
 size:env.n=tmps.size
 get:∀ i,VRel φ σ (env.get i) (tmps.getD i undef)
theorem ERel.mono {φ φ':Phi} {σ σ':Sig} (hp:zNT φ φ') (hs:zNS σ σ') {env:Env} {t:Array Value} (h:ERel φ σ env t):ERel φ' σ' env t :=
 ⟨h.size,fun i=>(h.get i).mono hp hs⟩
theorem zEx (al:List (Nat × AV)):∀ (ks:List Nat) (t:Nat),z2V (z1d al ks) t=z2V al t∨z2V (z1d al ks) t=.top
 | [],_=>.inr rfl
 | k::ks,t=>by
  simp only [z1d,z2V]
  cases h:Nat.beq k t with
  | true=>left;rw [cond_true,lAY h]
  | false=>rw [cond_false];exact zEx al ks t
theorem ERel.keep {φ:Phi} {σ:Sig} {n:Nat} {al:List (Nat × AV)} {t:Array Value} (h:ERel φ σ ⟨n,z2V al⟩ t) (ks:List Nat):ERel φ σ ⟨n,z2V (z1d al ks)⟩ t:=by
 refine ⟨h.size,fun i=>?_⟩
 rcases zEx al ks i with e | e
 ·show VRel φ σ (z2V _ i) _
  rw [e];exact h.get i
 ·show VRel φ σ (z2V _ i) _
  rw [e];exact .top _
inductive AX where
 | normal
 | exit (id:Nat)
 | goto (l:Nat)
 | ret
 | panic (v:AV)
def XRel (φ:Phi) (σ:Sig):AX→Exit→Prop
 | .normal,e=>e=.normal
 | .exit id,e=>e=.exit id
 | .goto l,e=>e=.goto l
 | .ret,e=>e=.ret
 | .panic v,e=>∃ c,e=.panic [{ v:=c,recovered:=false }]∧VRel φ σ v c
inductive ARes where
 | ret (v:AV)
 | panic (v:AV)
def zZd (φ:Phi) (σ:Sig):ARes→Ending→Prop
 | .ret v,e=>∃ c,e=.returned c∧VRel φ σ v c
 | .panic v,e=>∃ c,e=.panicked [{ v:=c,recovered:=false }]∧VRel φ σ v c
abbrev zJL:=AX→Env→z0B→Prop
abbrev z2U:=ARes→z0B→Prop
def AWP (P:Program) (c:Code) (Q:zJL) (env:Env) (H:z0B):Prop :=
 ∀ φ σ (a:Act) (w:World),HRel φ σ H w→ERel φ σ env a.tmps →
  c.wp P (fun e a' w'=>∃ φ' σ' x env' H',Step φ σ H w φ' σ' H' w'∧z3a H H'∧XRel φ' σ' x e∧ERel φ' σ' env' a'.tmps∧a'.defers=a.defers∧Q x env' H') a w
def z0D (P:Program) (f:FuncId) (args:List AV) (H:z0B) (Q:z2U):Prop :=
 ∀ φ σ (cargs:Array Value) (w:World),HRel φ σ H w→z8N φ σ args cargs →
  Calls P f cargs w (fun e w'=>∃ φ' σ' r H',Step φ σ H w φ' σ' H' w'∧z3a H H'∧zZd φ' σ' r e∧Q r H')
theorem AWP.mono {P:Program} {c:Code} {Q Q':zJL} {env:Env} {H:z0B} (h:AWP P c Q env H) (hq:∀ x e H,Q x e H→Q' x e H):AWP P c Q' env H :=
 fun φ σ a w hr he=>wp_mono (h φ σ a w hr he) fun _ _ _ ⟨φ',σ',x,env',H',s,kp,xr,er,d,q⟩=>⟨φ',σ',x,env',H',s,kp,xr,er,d,hq _ _ _ q⟩
theorem z0D.mono {P:Program} {f:FuncId} {args:List AV} {H:z0B} {Q Q':z2U} (h:z0D P f args H Q) (hq:∀ r H,Q r H→Q' r H):z0D P f args H Q' :=
 fun φ σ a w hr he=>(h φ σ a w hr he).mono fun _ _ ⟨φ',σ',r,H',s,kp,rr,q⟩=>⟨φ',σ',r,H',s,kp,rr,hq _ _ q⟩
section rules
variable {P:Program} {Q:zJL} {env:Env} {H:z0B}
theorem zQC (h:Q .normal env H):AWP P .skip Q env H :=
 fun φ σ _ _ hr he=>wp_skip ⟨φ,σ,.normal,env,H,.refl hr,.refl _,rfl,he,rfl,h⟩
theorem zQE {id:Nat} (h:Q (.exit id) env H):AWP P (.exit id) Q env H :=
 fun φ σ _ _ hr he=>wp_exit ⟨φ,σ,.exit id,env,H,.refl hr,.refl _,rfl,he,rfl,h⟩
theorem zSd (h:Q .ret env H):AWP P .ret Q env H :=
 fun φ σ _ _ hr he=>wp_ret ⟨φ,σ,.ret,env,H,.refl hr,.refl _,rfl,he,rfl,h⟩
def AX.then (next:Env→z0B→Prop) (Q:zJL):zJL
 | .normal,e,H=>next e H
 | x,e,H=>Q x e H
theorem zSc {x y:Code} (h:AWP P x (AX.then (AWP P y Q) Q) env H):AWP P (.seq x y) Q env H:=by
 intro φ σ a w hr he
 refine wp_seq (wp_mono (h φ σ a w hr he) ?_)
 rintro e a' w' ⟨φ',σ',x',env',H',s,kp,xr,er,d,q⟩
 cases x' with
 | normal =>
  cases xr
  refine wp_mono (q φ' σ' a' w' s.hrel er) ?_
  rintro e₂ a₂ w₂ ⟨φ₂,σ₂,x₂,env₂,H₂,s₂,kp₂,xr₂,er₂,d₂,q₂⟩
  exact ⟨φ₂,σ₂,x₂,env₂,H₂,s.trans s₂,kp.trans kp₂,xr₂,er₂,d₂.trans d,q₂⟩
 | exit id=>cases xr;exact ⟨φ',σ',.exit id,env',H',s,kp,rfl,er,d,q⟩
 | goto l=>cases xr;exact ⟨φ',σ',.goto l,env',H',s,kp,rfl,er,d,q⟩
 | ret=>cases xr;exact ⟨φ',σ',.ret,env',H',s,kp,rfl,er,d,q⟩
 | panic v=>obtain ⟨c,rfl,hv⟩:=xr;exact ⟨φ',σ',.panic v,env',H',s,kp,⟨c,rfl,hv⟩,er,d,q⟩
def AX.inBlock (id:Nat) (Q:zJL):zJL
 | .exit id',e,H=>if id'=id then Q .normal e H else Q (.exit id') e H
 | x,e,H=>Q x e H
theorem zNJ {id:Nat} {c:Code} (h:AWP P c (AX.inBlock id Q) env H):AWP P (.block id c) Q env H:=by
 intro φ σ a w hr he
 refine wp_block (wp_mono (h φ σ a w hr he) ?_)
 rintro e a' w' ⟨φ',σ',x',env',H',s,kp,xr,er,d,q⟩
 cases x' with
 | normal=>cases xr;exact ⟨φ',σ',.normal,env',H',s,kp,rfl,er,d,q⟩
 | exit id' =>
  cases xr
  simp only [AX.inBlock] at q
  simp only [Exit.inBlock]
  split
  ·rename_i hh;rw [if_pos hh] at q;exact ⟨φ',σ',.normal,env',H',s,kp,rfl,er,d,q⟩
  ·rename_i hh;rw [if_neg hh] at q;exact ⟨φ',σ',.exit id',env',H',s,kp,rfl,er,d,q⟩
 | goto l=>cases xr;exact ⟨φ',σ',.goto l,env',H',s,kp,rfl,er,d,q⟩
 | ret=>cases xr;exact ⟨φ',σ',.ret,env',H',s,kp,rfl,er,d,q⟩
 | panic v=>obtain ⟨c,rfl,hv⟩:=xr;exact ⟨φ',σ',.panic v,env',H',s,kp,⟨c,rfl,hv⟩,er,d,q⟩
theorem zJF {c:Operand} {x y:Code} {t:Bool} (hc:∀ φ σ (a:Act),ERel φ σ env a.tmps→a.eval c=.bool t) (h:AWP P (if t then x else y) Q env H) :
  AWP P (.cond c x y) Q env H :=
 fun φ σ a w hr he=>wp_cond (hc φ σ a he) (h φ σ a w hr he)
theorem zQD {c:Code} (I:Nat→Env→z0B→Prop) (n₀:Nat) (h₀:I n₀ env H)
  (round:∀ n e H,I n e H→AWP P c (AX.then (fun e' H'=>∃ n',n'<n∧I n' e' H') Q) e H):AWP P (.loop c) Q env H:=by
 intro φ σ a₀ w₀ hr₀ he₀
 refine wp_loop_ghost (fun n a w=>∃ φ' σ' e' H',Step φ σ H w₀ φ' σ' H' w∧z3a H H'∧ERel φ' σ' e' a.tmps∧a.defers=a₀.defers∧I n e' H') n₀
  ⟨φ,σ,env,H,.refl hr₀,.refl _,he₀,rfl,h₀⟩ ?_
 rintro n a w ⟨φ₁,σ₁,e₁,H₁,s₁,kp₁,er₁,d₁,i₁⟩
 refine wp_mono (round n e₁ H₁ i₁ φ₁ σ₁ a w s₁.hrel er₁) ?_
 rintro e a' w' ⟨φ',σ',x',env',H',s,kp,xr,er,d,q⟩
 cases x' with
 | normal =>
  cases xr
  obtain ⟨n',hn,hi⟩:=q
  exact ⟨n',hn,φ',σ',env',H',s₁.trans s,kp₁.trans kp,er,d.trans d₁,hi⟩
 | exit id=>cases xr;exact ⟨φ',σ',.exit id,env',H',s₁.trans s,kp₁.trans kp,rfl,er,d.trans d₁,q⟩
 | goto l=>cases xr;exact ⟨φ',σ',.goto l,env',H',s₁.trans s,kp₁.trans kp,rfl,er,d.trans d₁,q⟩
 | ret=>cases xr;exact ⟨φ',σ',.ret,env',H',s₁.trans s,kp₁.trans kp,rfl,er,d.trans d₁,q⟩
 | panic v=>obtain ⟨c,rfl,hv⟩:=xr;exact ⟨φ',σ',.panic v,env',H',s₁.trans s,kp₁.trans kp,⟨c,rfl,hv⟩,er,d.trans d₁,q⟩
end rules
end Go.Ab
