/- Part 12 of the proof. -/
import Derived.Test.YtagcckioikbanaaGreatDoorM11
set_option linter.unusedVariables false
set_option linter.unusedSimpArgs false
namespace Go.Ab
variable {P:Program} {H:z0B}
def zAQ (rs:List RV) (al:AL) (H:z0B):Option (List AV) :=
 match rs with
 | []=>some []
 | .tmp t::l=>match zAQ l al H with
  | some r=>some (z2V al t::r)
  | none=>none
 | .cell t n::l=>match z0h n (z2V al t) H,zAQ l al H with
  | some v,some r=>some (v::r)
  | _,_=>none
theorem z7k (n:Nat) (al:AL) (H:z0B):∀ rs,zLc rs (mkE n al) H=zAQ rs al H
 | []=>rfl
 | .tmp t::l=>by simp only [zLc,zAQ,z7k n al H l];rfl
 | .cell t k::l=>by simp only [zLc,zAQ,z7k n al H l];rfl
def z3c (rs:List RV) (al:AL) (H:z0B):Option AV :=
 match zAQ rs al H with
 | some [v]=>some v
 | some vs=>some (.tuple vs)
 | none=>none
def z3m (rs:List RV) (Q:z2U):PL
 | .normal,al,H=>∃ v,z3c rs al H=some v∧Q (.ret v) H
 | .ret,al,H=>∃ v,z3c rs al H=some v∧Q (.ret v) H
 | .panic v,_,H=>Q (.panic v) H
 | _,_,_=>False
structure IFunc where
 n:Nat
 rs:List RV
 body:IC
def Is (P:Program) (f:FuncId) (anns:List Ann) (F:IFunc):Prop :=
 match P.funcs[f]? with
 | some fn=>match fn.body with
  | some c=>fn.ntmps=F.n∧cRV P fn.results.toList=some F.rs∧z2T P fn.ntmps c anns=some (F.body,[])
  | none=>False
 | none=>False
theorem Is.call {f:FuncId} {anns:List Ann} {F:IFunc} (hnn:z6F P) (hm:P.follows .mixedOrders=true) (hF:Is P f anns F) {args:List AV} {Q:z2U}
  (hn:Nat.ble args.length F.n=true) (h:iwp P F.body (z3m F.rs Q) (z6k 0 args) H):z0D P f args H Q:=by
 unfold Is at hF
 split at hF
 case h_2=>exact hF.elim
 rename_i fn hf
 split at hF
 case h_2=>exact hF.elim
 rename_i c hb
 obtain ⟨h1,h2,h3⟩:=hF
 refine zFk hf hb h2 (by rw [h1];exact lDU hn) ?_
 refine (z2G hnn hm c _ _ _ h3 _ _ _ h).mono ?_
 rintro x env H' ⟨m,al,rfl,hmm,q⟩
 cases x with
 | normal=>obtain ⟨v,h4,h5⟩:=q;exact ⟨v,by simp only [z3T,z7k];exact h4,h5⟩
 | ret=>obtain ⟨v,h4,h5⟩:=q;exact ⟨v,by simp only [z3T,z7k];exact h4,h5⟩
 | panic v=>exact q
 | exit id=>exact q
 | goto l=>exact q
end Go.Ab
namespace Go.Ab
abbrev z3M:=FuncId→List AV→z0B→(ARes→z0B→Bool)→Bool
def z4v {β:Type} (n:Nat) (k:Nat→β):β:=Nat.casesOn n (k 0) (fun m=>k (Nat.succ m))
def zQa {β:Type} (i:Int) (k:Int→β):β:=Int.casesOn i (fun n=>z4v n fun n=>k (.ofNat n)) (fun n=>z4v n fun n=>k (.negSucc n))
def zQb {β:Type} (b:Bool) (k:Bool→β):β:=Bool.casesOn b (k false) (k true)
def z5w {β:Type} (v:AV) (k:AV→β):β :=
 match v with
 | .bool b=>zQb b fun b=>k (.bool b)
 | .int i n=>zQa n fun n=>k (.int i n)
 | .ptr id off=>z4v id fun id=>z4v off fun off=>k (.ptr id off)
 | v=>k v
noncomputable def zRh {β:Type} (al:AL) (ks:List Nat):(AL→β)→β :=
 List.rec (fun k=>k []) (fun t _ rest k=>z5w (z2V al t) fun v=>rest fun l=>k ((t,v)::l)) ks
noncomputable def z4R {β:Type} (al:AL) (keep:Option (List Nat)) (k:AL→β):β :=
 match keep with
 | none=>k al
 | some ks=>zRh al ks k
noncomputable def zFK {α β:Type} (f:α→(α→β)→β) (l:List α):(List α→β)→β :=
 List.rec (fun k=>k []) (fun a _ rest k=>f a fun a=>rest fun t=>k (a::t)) l
noncomputable def z6W {β:Type} (b:Blk) (k:Blk→β):β :=
 match b with
 | .cells cs=>zFK z5w cs fun cs=>k (.cells cs)
 | .map es c=>z4v c fun c=>zFK (fun e k=>z5w e.1 fun x=>z5w e.2.1 fun y=>z4v e.2.2 fun n=>k (x,y,n)) es fun es=>k (.map es c)
 | .iter m a l c=>z4v a fun a=>z4v c fun c=>zFK z4v l fun l=>k (.iter m a l c)
 | b=>k b
noncomputable def zFL {β:Type} (H:z0B):Nat→(z0B→β)→β :=
 List.rec (motive:=fun _=>Nat→(z0B→β)→β) (fun _ k=>k [])
  (fun b _ rest n k=>Nat.casesOn (motive:=fun _=>β) n (z6W b fun b=>rest 1000000000 fun t=>k (b::t)) (fun n=>rest n fun t=>k (b::t))) H
noncomputable def zYA (H:z0B):Nat→Option Blk :=
 List.rec (motive:=fun _=>Nat→Option Blk) (fun _=>none) (fun b _ rest n=>Nat.casesOn (motive:=fun _=>Option Blk) n (some b) rest) H
def zMR (r:Nat):List AV→Nat
 | .ptr id _::_=>id
 | .map id::_=>id
 | _=>r
def zXp (op:IOp) (r:Nat) (args:List AV):Nat :=
 match op with
 | .m (.store _)=>zMR r args
 | .n _=>zMR r args
 | _=>r
def zQm {β:Type} (n:Option Nat) (x:AV) (H:z0B) (bad:β) (k:AV→β) (nth:z0B→Nat→Option Blk):β :=
 match x with
 | .ptr id off=>match nth H id with
  | some (.cells cs)=>match z3L n cs off with
   | some v=>k v
   | none=>bad
  | _=>bad
 | x=>match z0h n x H with
  | some v=>k v
  | none=>bad
noncomputable def bi (op:IOp) (args:List AV) (H:z0B) (r:Nat) (k:AV→z0B→Bool):Bool :=
 match op with
 | .d d=>match z1W d args with
  | some v=>z5w v fun v=>k v H
  | none=>false
 | .m (.load n)=>match args with
  | [x]=>zQm n x H false (fun v=>z5w v fun v=>k v H) zYA
  | _=>false
 | op=>z4v r fun r=>match z5a op args H r with
  | some (v,H')=>z5w v fun v=>zFL H' (zXp op r args) fun H'=>k v H'
  | none=>false
noncomputable def zQA (call:z3M) (o:IOper) (r:Nat) (al:AL) (H:z0B) (K:AL→z0B→Bool) (Kp:AV→z0B→Bool):Bool :=
 match o.op with
 | .i op=>bi op (z0u al o.args) H r fun v H'=>K (z9H al o.dst v) H'
 | .callF f=>call f (z0u al o.args) H fun r H'=>match r with
  | .ret v=>K (z9H al o.dst v) H'
  | .panic v=>Kp v H'
 | .callV=>match z0u al o.args with
  | .clo (.func f) fs cs::vs=>call f (fs++vs++cs) H fun r H'=>match r with
   | .ret v=>K (z9H al o.dst v) H'
   | .panic v=>Kp v H'
  | _=>false
 | .panic=>match z0u al o.args with
  | [.iface t v]=>Kp (.iface t v) H
  | _=>false
 | .next=>match zGN (z0u al o.args) H with
  | some l=>l.all fun x=>zFL x.2 (zMR 0 (z0u al o.args)) fun H'=>K (z9H al o.dst x.1) H'
  | none=>false
noncomputable def zXM (call:z3M) (o:IOper) (r:Nat) (al:AL) (H:z0B) (K:AL→z0B→Bool) (Kp:AV→z0B→Bool):Bool :=
 match o.guard with
 | none=>zQA call o r al H K Kp
 | some (g,want)=>match z2V al g with
  | .bool b=>bif b==want then zQA call o r al H K Kp else K (z9H al o.dst (.tuple [])) H
  | .tuple []=>K (z9H al o.dst (.tuple [])) H
  | _=>false
noncomputable def zXf (call:z3M) (Kp:AV→z0B→Bool) (os:List IOper):(AL→z0B→Bool)→AL→z0B→Bool :=
 List.rec (fun K al H=>K al H) (fun o _ rest K al H=>zXM call o H.length al H (rest K) Kp) os
def zND (o:IOper) (al:AL) (H:z0B) (k:AV→Option (Option Nat × AV)→Bool):Bool :=
 match z0f o al H with
 | some (v,rd)=>z5w v fun v=>k v rd
 | none=>false
def z8Z (f:AV→AV→Bool):List AV→List AV→Bool
 | [],[]=>true
 | x::xs,y::ys=>f x y&&z8Z f xs ys
 | _,_=>false
def zCq:Nat→AV→AV→Bool
 | 0,_,_=>false
 | n+1,x,y=>match x,y with
  | .bool a,.bool b=>a==b
  | .int k a,.int k' b=>k==k'&&a==b
  | .ptr a b,.ptr c d=>Nat.beq a c&&Nat.beq b d
  | .map a,.map b=>Nat.beq a b
  | .sl a b c d,.sl a' b' c' d'=>Nat.beq a a'&&Nat.beq b b'&&Nat.beq c c'&&Nat.beq d d'
  | .str a,.str b=>a==b
  | .nilslice,.nilslice=>true
  | .nilmap,.nilmap=>true
  | .nilptr,.nilptr=>true
  | .nilfunc,.nilfunc=>true
  | .niliface,.niliface=>true
  | .glob a,.glob b=>Nat.beq a b
  | .agg a,.agg b=>z8Z (zCq n) a b
  | .tuple a,.tuple b=>z8Z (zCq n) a b
  | .cptr a,.cptr b=>z8Z (zCq n) a b
  | .list a x,.list b y=>Nat.beq a b&&z8Z (zCq n) x y
  | .clo (.func f) a b,.clo (.func g) c d=>Nat.beq f g&&z8Z (zCq n) a c&&z8Z (zCq n) b d
  | _,_=>false
def zAL (x y:AV):Bool:=zCq 8 x y
def zNH (ios:List IOper) (B:List (List Nat)) (S:List Rd) (z:Nat) (H':z0B):Bool :=
 match ios[z]? with
 | some o=>bif z0v o then true else S.all fun s=>(zKT B z).contains s.i||(match z0h s.n s.x H' with | some u=>zAL u s.v | none=>false)
 | none=>true
noncomputable def zKV (call:z3M) (base:Nat) (ios:List IOper) (B:List (List Nat)) (K:AL→z0B→Bool) (s:Sched):List Rd→AL→z0B→Bool :=
 Sched.rec (motive:=fun _=>List Rd→AL→z0B→Bool)
  (fun _ al H=>K al H)
  (fun _ _ _=>true)
  (fun i _ go S al H=>match ios[i]? with
   | some o=>zND o al H fun v rd=>go (z7U S i v rd) (z9H al o.dst v) H
   | none=>false)
  (fun i _ _ go rest S al H=>(match ios[i]? with
   | some o=>z9J H (rOf base o H)&&Nat.ble base (rOf base o H) &&
     zXM call o (rOf base o H) al H (fun al' H'=>zNH ios B S i H'&&go S al' H') (fun _ _=>false)
   | none=>false)&&rest S al H) s
noncomputable def zBR (call:z3M) (fuel:Nat) (c:IC):(AX→AL→z0B→Bool)→AL→z0B→Bool :=
 IC.rec (motive:=fun _=>(AX→AL→z0B→Bool)→AL→z0B→Bool)
  (fun K al H=>K .normal al H)
  (fun ios keep K al H=>zXf call (fun v H=>K (.panic v) [] H) ios (fun al H=>z4R al keep fun al=>K .normal al H) al H)
  (fun n ios B s keep K al H=>zKV call H.length ios B (fun al H=>z4R al keep fun al=>K .normal al H) s [] al (z1Q H n))
  (fun _ _ x y K al H=>x (fun e al H=>match e with | .normal=>y K al H | e=>K e al H) al H)
  (fun c _ _ x y K al H=>match evL al c with | .bool true=>x K al H | .bool false=>y K al H | _=>false)
  (fun id _ x K al H=>x (fun e al H=>match e with | .exit id'=>bif Nat.beq id' id then K .normal al H else K (.exit id') al H | e=>K e al H) al H)
  (fun keep _ x K al H=>z4R al keep fun al=>Nat.rec (motive:=fun _=>AL→z0B→Bool) (fun _ _=>false)
   (fun _ go al H=>x (fun e al H=>match e with | .normal=>z4R al keep fun al=>go al H | e=>K e al H) al H) fuel al H)
  (fun id K al H=>K (.exit id) al H)
  (fun K al H=>K .ret al H) c
noncomputable def zXg (call:z3M) (fuel:Nat) (F:IFunc) (args:List AV) (H:z0B) (k:ARes→z0B→Bool):Bool :=
 zBR call fuel F.body (fun e al H=>match e with
  | .normal=>match z3c F.rs al H with
   | some v=>k (.ret v) H
   | none=>false
  | .ret=>match z3c F.rs al H with
   | some v=>k (.ret v) H
   | none=>false
  | .panic v=>k (.panic v) H
  | _=>false) (z6k 0 args) H
noncomputable def zQB (K:FuncId→Option IFunc) (fuel:Nat) (orc:z3M) (d:Nat):z3M :=
 Nat.rec (motive:=fun _=>z3M) orc (fun _ go f args H k=>match K f with
  | some F=>Nat.ble args.length F.n&&zXg go fuel F args H k
  | none=>orc f args H k) d
end Go.Ab
