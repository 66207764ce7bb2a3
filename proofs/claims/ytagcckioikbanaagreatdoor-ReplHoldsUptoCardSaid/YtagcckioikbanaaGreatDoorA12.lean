/- Part 12 of the proof. -/
import Derived.Test.YtagcckioikbanaaGreatDoorA11
set_option linter.unusedVariables false
set_option linter.unusedSimpArgs false
namespace Go.Ab
variable {P:Program} {H:z0B}
def z9z (rs:List RV) (al:AL) (H:z0B):Option (List AV) :=
 match rs with
 | []=>some []
 | .tmp t::l=>match z9z l al H with
  | some r=>some (z1e al t::r)
  | none=>none
 | .cell t n::l=>match z0p n (z1e al t) H,z9z l al H with
  | some v,some r=>some (v::r)
  | _,_=>none
theorem z8X (n:Nat) (al:AL) (H:z0B):∀ rs,zMd rs (mkE n al) H=z9z rs al H
 | []=>rfl
 | .tmp t::l=>by simp only [zMd,z9z,z8X n al H l];rfl
 | .cell t k::l=>by simp only [zMd,z9z,z8X n al H l];rfl
def z3P (rs:List RV) (al:AL) (H:z0B):Option AV :=
 match z9z rs al H with
 | some [v]=>some v
 | some vs=>some (.tuple vs)
 | none=>none
def z4P (rs:List RV) (Q:z2g):PL
 | .normal,al,H=>∃ v,z3P rs al H=some v∧Q (.ret v) H
 | .ret,al,H=>∃ v,z3P rs al H=some v∧Q (.ret v) H
 | .panic v,_,H=>Q (.panic v) H
 | _,_,_=>False
structure IFunc where
 n:Nat
 rs:List RV
 body:IC
def Is (P:Program) (f:FuncId) (anns:List Ann) (F:IFunc):Prop :=
 match P.funcs[f]? with
 | some fn=>match fn.body with
  | some c=>fn.ntmps=F.n∧cRV P fn.results.toList=some F.rs∧z2f P fn.ntmps c anns=some (F.body,[])
  | none=>False
 | none=>False
theorem Is.call {f:FuncId} {anns:List Ann} {F:IFunc} (hnn:z6j P) (hm:P.follows .mixedOrders=true) (hF:Is P f anns F) {args:List AV} {Q:z2g}
  (hn:Nat.ble args.length F.n=true) (h:iwp P F.body (z4P F.rs Q) (z7N 0 args) H):z0C P f args H Q:=by
 unfold Is at hF
 split at hF
 case h_2=>exact hF.elim
 rename_i fn hf
 split at hF
 case h_2=>exact hF.elim
 rename_i c hb
 obtain ⟨h1,h2,h3⟩:=hF
 refine zGp hf hb h2 (by rw [h1];exact lD1 hn) ?_
 refine (z2U hnn hm c _ _ _ h3 _ _ _ h).mono ?_
 rintro x env H' ⟨m,al,rfl,hmm,q⟩
 cases x with
 | normal=>obtain ⟨v,h4,h5⟩:=q;exact ⟨v,by simp only [z3r,z8X];exact h4,h5⟩
 | ret=>obtain ⟨v,h4,h5⟩:=q;exact ⟨v,by simp only [z3r,z8X];exact h4,h5⟩
 | panic v=>exact q
 | exit id=>exact q
 | goto l=>exact q
end Go.Ab
namespace Go.Ab
abbrev z3h:=FuncId→List AV→z0B→(ARes→z0B→Bool)→Bool
def z5R {β:Type} (n:Nat) (k:Nat→β):β:=Nat.casesOn n (k 0) (fun m=>k (Nat.succ m))
def zRa {β:Type} (i:Int) (k:Int→β):β:=Int.casesOn i (fun n=>z5R n fun n=>k (.ofNat n)) (fun n=>z5R n fun n=>k (.negSucc n))
def zRb {β:Type} (b:Bool) (k:Bool→β):β:=Bool.casesOn b (k false) (k true)
def z6b {β:Type} (v:AV) (k:AV→β):β :=
 match v with
 | .bool b=>zRb b fun b=>k (.bool b)
 | .int i n=>zRa n fun n=>k (.int i n)
 | .ptr id off=>z5R id fun id=>z5R off fun off=>k (.ptr id off)
 | v=>k v
noncomputable def zSk {β:Type} (al:AL) (ks:List Nat):(AL→β)→β :=
 List.rec (fun k=>k []) (fun t _ rest k=>z6b (z1e al t) fun v=>rest fun l=>k ((t,v)::l)) ks
noncomputable def z4r {β:Type} (al:AL) (keep:Option (List Nat)) (k:AL→β):β :=
 match keep with
 | none=>k al
 | some ks=>zSk al ks k
noncomputable def zGL {α β:Type} (f:α→(α→β)→β) (l:List α):(List α→β)→β :=
 List.rec (fun k=>k []) (fun a _ rest k=>f a fun a=>rest fun t=>k (a::t)) l
noncomputable def z6z {β:Type} (b:Blk) (k:Blk→β):β :=
 match b with
 | .cells cs=>zGL z6b cs fun cs=>k (.cells cs)
 | .map es c=>z5R c fun c=>zGL (fun e k=>z6b e.1 fun x=>z6b e.2.1 fun y=>z5R e.2.2 fun n=>k (x,y,n)) es fun es=>k (.map es c)
 | .iter m a l c=>z5R a fun a=>z5R c fun c=>zGL z5R l fun l=>k (.iter m a l c)
 | b=>k b
noncomputable def zGM {β:Type} (H:z0B):Nat→(z0B→β)→β :=
 List.rec (motive:=fun _=>Nat→(z0B→β)→β) (fun _ k=>k [])
  (fun b _ rest n k=>Nat.casesOn (motive:=fun _=>β) n (z6z b fun b=>rest 1000000000 fun t=>k (b::t)) (fun n=>rest n fun t=>k (b::t))) H
noncomputable def zZN (H:z0B):Nat→Option Blk :=
 List.rec (motive:=fun _=>Nat→Option Blk) (fun _=>none) (fun b _ rest n=>Nat.casesOn (motive:=fun _=>Option Blk) n (some b) rest) H
def zNT (r:Nat):List AV→Nat
 | .ptr id _::_=>id
 | .map id::_=>id
 | _=>r
def zZC (op:IOp) (r:Nat) (args:List AV):Nat :=
 match op with
 | .m (.store _)=>zNT r args
 | .n _=>zNT r args
 | _=>r
def zRj {β:Type} (n:Option Nat) (x:AV) (H:z0B) (bad:β) (k:AV→β) (nth:z0B→Nat→Option Blk):β :=
 match x with
 | .ptr id off=>match nth H id with
  | some (.cells cs)=>match z2w n cs off with
   | some v=>k v
   | none=>bad
  | _=>bad
 | x=>match z0p n x H with
  | some v=>k v
  | none=>bad
noncomputable def bi (op:IOp) (args:List AV) (H:z0B) (r:Nat) (k:AV→z0B→Bool):Bool :=
 match op with
 | .d d=>match z1t d args with
  | some v=>z6b v fun v=>k v H
  | none=>false
 | .m (.load n)=>match args with
  | [x]=>zRj n x H false (fun v=>z6b v fun v=>k v H) zZN
  | _=>false
 | op=>z5R r fun r=>match z5p op args H r with
  | some (v,H')=>z6b v fun v=>zGM H' (zZC op r args) fun H'=>k v H'
  | none=>false
noncomputable def zQy (call:z3h) (o:IOper) (r:Nat) (al:AL) (H:z0B) (K:AL→z0B→Bool) (Kp:AV→z0B→Bool):Bool :=
 match o.op with
 | .i op=>bi op (z1G al o.args) H r fun v H'=>K (z9y al o.dst v) H'
 | .callF f=>call f (z1G al o.args) H fun r H'=>match r with
  | .ret v=>K (z9y al o.dst v) H'
  | .panic v=>Kp v H'
 | .callV=>match z1G al o.args with
  | .clo (.func f) fs cs::vs=>call f (fs++vs++cs) H fun r H'=>match r with
   | .ret v=>K (z9y al o.dst v) H'
   | .panic v=>Kp v H'
  | _=>false
 | .panic=>match z1G al o.args with
  | [.iface t v]=>Kp (.iface t v) H
  | _=>false
 | .next=>match zHT (z1G al o.args) H with
  | some l=>l.all fun x=>zGM x.2 (zNT 0 (z1G al o.args)) fun H'=>K (z9y al o.dst x.1) H'
  | none=>false
noncomputable def zYX (call:z3h) (o:IOper) (r:Nat) (al:AL) (H:z0B) (K:AL→z0B→Bool) (Kp:AV→z0B→Bool):Bool :=
 match o.guard with
 | none=>zQy call o r al H K Kp
 | some (g,want)=>match z1e al g with
  | .bool b=>bif b==want then zQy call o r al H K Kp else K (z9y al o.dst (.tuple [])) H
  | .tuple []=>K (z9y al o.dst (.tuple [])) H
  | _=>false
noncomputable def zYv (call:z3h) (Kp:AV→z0B→Bool) (os:List IOper):(AL→z0B→Bool)→AL→z0B→Bool :=
 List.rec (fun K al H=>K al H) (fun o _ rest K al H=>zYX call o H.length al H (rest K) Kp) os
def zPG (o:IOper) (al:AL) (H:z0B) (k:AV→Option (Option Nat × AV)→Bool):Bool :=
 match z0q o al H with
 | some (v,rd)=>z6b v fun v=>k v rd
 | none=>false
def z9L (f:AV→AV→Bool):List AV→List AV→Bool
 | [],[]=>true
 | x::xs,y::ys=>f x y&&z9L f xs ys
 | _,_=>false
def zDn:Nat→AV→AV→Bool
 | 0,_,_=>false
 | n+1,x,y=>match x,y with
  | .bool a,.bool b=>a==b
  | .int k a,.int k' b=>k==k'&&a==b
  | .ptr a b,.ptr c d=>Nat.beq a c&&Nat.beq b d
  | .map a,.map b=>Nat.beq a b
  | .sl a b c d,.sl a' b' c' d'=>Nat.beq a a'&&Nat.beq b b'&&Nat.beq c c'&&Nat.beq d d'
  | .str a,.str b=>a==b
  | .nilslice,.nilslice=>true
  | .nilmap,.nilmap=>true
  | .nilptr,.nilptr=>true
  | .nilfunc,.nilfunc=>true
  | .niliface,.niliface=>true
  | .glob a,.glob b=>Nat.beq a b
  | .agg a,.agg b=>z9L (zDn n) a b
  | .tuple a,.tuple b=>z9L (zDn n) a b
  | .cptr a,.cptr b=>z9L (zDn n) a b
  | .list a x,.list b y=>Nat.beq a b&&z9L (zDn n) x y
  | .clo (.func f) a b,.clo (.func g) c d=>Nat.beq f g&&z9L (zDn n) a c&&z9L (zDn n) b d
  | _,_=>false
def zBA (x y:AV):Bool:=zDn 8 x y
def zPJ (ios:List IOper) (B:List (List Nat)) (S:List Rd) (z:Nat) (H':z0B):Bool :=
 match ios[z]? with
 | some o=>bif z1H o then true else S.all fun s=>(zLY B z).contains s.i||(match z0p s.n s.x H' with | some u=>zBA u s.v | none=>false)
 | none=>true
noncomputable def zLZ (call:z3h) (base:Nat) (ios:List IOper) (B:List (List Nat)) (K:AL→z0B→Bool) (s:Sched):List Rd→AL→z0B→Bool :=
 Sched.rec (motive:=fun _=>List Rd→AL→z0B→Bool)
  (fun _ al H=>K al H)
  (fun _ _ _=>true)
  (fun i _ go S al H=>match ios[i]? with
   | some o=>zPG o al H fun v rd=>go (z7z S i v rd) (z9y al o.dst v) H
   | none=>false)
  (fun i _ _ go rest S al H=>(match ios[i]? with
   | some o=>z9Y H (rOf base o H)&&Nat.ble base (rOf base o H) &&
     zYX call o (rOf base o H) al H (fun al' H'=>zPJ ios B S i H'&&go S al' H') (fun _ _=>false)
   | none=>false)&&rest S al H) s
noncomputable def zCK (call:z3h) (fuel:Nat) (c:IC):(AX→AL→z0B→Bool)→AL→z0B→Bool :=
 IC.rec (motive:=fun _=>(AX→AL→z0B→Bool)→AL→z0B→Bool)
  (fun K al H=>K .normal al H)
  (fun ios keep K al H=>zYv call (fun v H=>K (.panic v) [] H) ios (fun al H=>z4r al keep fun al=>K .normal al H) al H)
  (fun n ios B s keep K al H=>zLZ call H.length ios B (fun al H=>z4r al keep fun al=>K .normal al H) s [] al (z1P H n))
  (fun _ _ x y K al H=>x (fun e al H=>match e with | .normal=>y K al H | e=>K e al H) al H)
  (fun c _ _ x y K al H=>match evL al c with | .bool true=>x K al H | .bool false=>y K al H | _=>false)
  (fun id _ x K al H=>x (fun e al H=>match e with | .exit id'=>bif Nat.beq id' id then K .normal al H else K (.exit id') al H | e=>K e al H) al H)
  (fun keep _ x K al H=>z4r al keep fun al=>Nat.rec (motive:=fun _=>AL→z0B→Bool) (fun _ _=>false)
   (fun _ go al H=>x (fun e al H=>match e with | .normal=>z4r al keep fun al=>go al H | e=>K e al H) al H) fuel al H)
  (fun id K al H=>K (.exit id) al H)
  (fun K al H=>K .ret al H) c
noncomputable def zYw (call:z3h) (fuel:Nat) (F:IFunc) (args:List AV) (H:z0B) (k:ARes→z0B→Bool):Bool :=
 zCK call fuel F.body (fun e al H=>match e with
  | .normal=>match z3P F.rs al H with
   | some v=>k (.ret v) H
   | none=>false
  | .ret=>match z3P F.rs al H with
   | some v=>k (.ret v) H
   | none=>false
  | .panic v=>k (.panic v) H
  | _=>false) (z7N 0 args) H
noncomputable def zQz (K:FuncId→Option IFunc) (fuel:Nat) (orc:z3h) (d:Nat):z3h :=
 Nat.rec (motive:=fun _=>z3h) orc (fun _ go f args H k=>match K f with
  | some F=>Nat.ble args.length F.n&&zYw go fuel F args H k
  | none=>orc f args H k) d
end Go.Ab
