/- Part 12 of the proof. -/
import Derived.Test.YtgpnlpieipoogaaGreatDoorA11
set_option linter.unusedVariables false
set_option linter.unusedSimpArgs false
namespace Go.Ab
variable {P:Program} {H:Heap}
def resVL (rs:List RV) (al:AL) (H:Heap):Option (List AV) :=
 match rs with
 | []=>some []
 | .tmp t::l=>match resVL l al H with
  | some r=>some (look al t::r)
  | none=>none
 | .cell t n::l=>match rload n (look al t) H,resVL l al H with
  | some v,some r=>some (v::r)
  | _,_=>none
theorem resVL_eq (n:Nat) (al:AL) (H:Heap):∀ rs,resV rs (mkE n al) H=resVL rs al H
 | []=>rfl
 | .tmp t::l=>by simp only [resV,resVL,resVL_eq n al H l];rfl
 | .cell t k::l=>by simp only [resV,resVL,resVL_eq n al H l];rfl
def resultL (rs:List RV) (al:AL) (H:Heap):Option AV :=
 match resVL rs al H with
 | some [v]=>some v
 | some vs=>some (.tuple vs)
 | none=>none
def fpostL (rs:List RV) (Q:CPost):PL
 | .normal,al,H=>∃ v,resultL rs al H=some v∧Q (.ret v) H
 | .ret,al,H=>∃ v,resultL rs al H=some v∧Q (.ret v) H
 | .panic v,_,H=>Q (.panic v) H
 | _,_,_=>False
structure IFunc where
 n:Nat
 rs:List RV
 body:IC
def Is (P:Program) (f:FuncId) (anns:List Ann) (F:IFunc):Prop :=
 match P.funcs[f]? with
 | some fn=>match fn.body with
  | some c=>fn.ntmps=F.n∧cRV P fn.results.toList=some F.rs∧cCode P fn.ntmps c anns=some (F.body,[])
  | none=>False
 | none=>False
theorem Is.call {f:FuncId} {anns:List Ann} {F:IFunc} (hnn:NoNum P) (hm:P.follows .mixedOrders=true) (hF:Is P f anns F) {args:List AV} {Q:CPost}
  (hn:Nat.ble args.length F.n=true) (h:iwp P F.body (fpostL F.rs Q) (number 0 args) H):ACall P f args H Q:=by
 unfold Is at hF
 split at hF
 case h_2=>exact hF.elim
 rename_i fn hf
 split at hF
 case h_2=>exact hF.elim
 rename_i c hb
 obtain ⟨h1,h2,h3⟩:=hF
 refine acall_of_awp hf hb h2 (by rw [h1];exact Nat.le_of_ble_eq_true hn) ?_
 refine (iwp_sound hnn hm c _ _ _ h3 _ _ _ h).mono ?_
 rintro x env H' ⟨m,al,rfl,hmm,q⟩
 cases x with
 | normal=>obtain ⟨v,h4,h5⟩:=q;exact ⟨v,by simp only [resultA,resVL_eq];exact h4,h5⟩
 | ret=>obtain ⟨v,h4,h5⟩:=q;exact ⟨v,by simp only [resultA,resVL_eq];exact h4,h5⟩
 | panic v=>exact q
 | exit id=>exact q
 | goto l=>exact q
end Go.Ab
namespace Go.Ab
abbrev BCall:=FuncId→List AV→Heap→(ARes→Heap→Bool)→Bool
def forceN {β:Type} (n:Nat) (k:Nat→β):β:=Nat.casesOn n (k 0) (fun m=>k (Nat.succ m))
def forceI {β:Type} (i:Int) (k:Int→β):β:=Int.casesOn i (fun n=>forceN n fun n=>k (.ofNat n)) (fun n=>forceN n fun n=>k (.negSucc n))
def forceB {β:Type} (b:Bool) (k:Bool→β):β:=Bool.casesOn b (k false) (k true)
def forceV {β:Type} (v:AV) (k:AV→β):β :=
 match v with
 | .bool b=>forceB b fun b=>k (.bool b)
 | .int i n=>forceI n fun n=>k (.int i n)
 | .ptr id off=>forceN id fun id=>forceN off fun off=>k (.ptr id off)
 | v=>k v
noncomputable def keepF {β:Type} (al:AL) (ks:List Nat):(AL→β)→β :=
 List.rec (fun k=>k []) (fun t _ rest k=>forceV (look al t) fun v=>rest fun l=>k ((t,v)::l)) ks
noncomputable def forgetF {β:Type} (al:AL) (keep:Option (List Nat)) (k:AL→β):β :=
 match keep with
 | none=>k al
 | some ks=>keepF al ks k
noncomputable def forceL {α β:Type} (f:α→(α→β)→β) (l:List α):(List α→β)→β :=
 List.rec (fun k=>k []) (fun a _ rest k=>f a fun a=>rest fun t=>k (a::t)) l
noncomputable def forceBlk {β:Type} (b:Blk) (k:Blk→β):β :=
 match b with
 | .cells cs=>forceL forceV cs fun cs=>k (.cells cs)
 | .map es c=>forceN c fun c=>forceL (fun e k=>forceV e.1 fun x=>forceV e.2.1 fun y=>forceN e.2.2 fun n=>k (x,y,n)) es fun es=>k (.map es c)
 | .iter m a l c=>forceN a fun a=>forceN c fun c=>forceL forceN l fun l=>k (.iter m a l c)
 | b=>k b
noncomputable def forceH {β:Type} (H:Heap):Nat→(Heap→β)→β :=
 List.rec (motive:=fun _=>Nat→(Heap→β)→β) (fun _ k=>k [])
  (fun b _ rest n k=>Nat.casesOn (motive:=fun _=>β) n (forceBlk b fun b=>rest 1000000000 fun t=>k (b::t)) (fun n=>rest n fun t=>k (b::t))) H
noncomputable def nthB (H:Heap):Nat→Option Blk :=
 List.rec (motive:=fun _=>Nat→Option Blk) (fun _=>none) (fun b _ rest n=>Nat.casesOn (motive:=fun _=>Option Blk) n (some b) rest) H
def headId (r:Nat):List AV→Nat
 | .ptr id _::_=>id
 | .map id::_=>id
 | _=>r
def tgtOf (op:IOp) (r:Nat) (args:List AV):Nat :=
 match op with
 | .m (.store _)=>headId r args
 | .n _=>headId r args
 | _=>r
def bloadP {β:Type} (n:Option Nat) (x:AV) (H:Heap) (bad:β) (k:AV→β) (nth:Heap→Nat→Option Blk):β :=
 match x with
 | .ptr id off=>match nth H id with
  | some (.cells cs)=>match dpart n cs off with
   | some v=>k v
   | none=>bad
  | _=>bad
 | x=>match rload n x H with
  | some v=>k v
  | none=>bad
noncomputable def bi (op:IOp) (args:List AV) (H:Heap) (r:Nat) (k:AV→Heap→Bool):Bool :=
 match op with
 | .d d=>match dsem d args with
  | some v=>forceV v fun v=>k v H
  | none=>false
 | .m (.load n)=>match args with
  | [x]=>bloadP n x H false (fun v=>forceV v fun v=>k v H) nthB
  | _=>false
 | op=>forceN r fun r=>match isem op args H r with
  | some (v,H')=>forceV v fun v=>forceH H' (tgtOf op r args) fun H'=>k v H'
  | none=>false
noncomputable def bexec (call:BCall) (o:IOper) (r:Nat) (al:AL) (H:Heap) (K:AL→Heap→Bool) (Kp:AV→Heap→Bool):Bool :=
 match o.op with
 | .i op=>bi op (evsL al o.args) H r fun v H'=>K (setL al o.dst v) H'
 | .callF f=>call f (evsL al o.args) H fun r H'=>match r with
  | .ret v=>K (setL al o.dst v) H'
  | .panic v=>Kp v H'
 | .callV=>match evsL al o.args with
  | .clo (.func f) fs cs::vs=>call f (fs++vs++cs) H fun r H'=>match r with
   | .ret v=>K (setL al o.dst v) H'
   | .panic v=>Kp v H'
  | _=>false
 | .panic=>match evsL al o.args with
  | [.iface t v]=>Kp (.iface t v) H
  | _=>false
 | .next=>match nnext (evsL al o.args) H with
  | some l=>l.all fun x=>forceH x.2 (headId 0 (evsL al o.args)) fun H'=>K (setL al o.dst x.1) H'
  | none=>false
noncomputable def bopR (call:BCall) (o:IOper) (r:Nat) (al:AL) (H:Heap) (K:AL→Heap→Bool) (Kp:AV→Heap→Bool):Bool :=
 match o.guard with
 | none=>bexec call o r al H K Kp
 | some (g,want)=>match look al g with
  | .bool b=>bif b==want then bexec call o r al H K Kp else K (setL al o.dst (.tuple [])) H
  | .tuple []=>K (setL al o.dst (.tuple [])) H
  | _=>false
noncomputable def bops (call:BCall) (Kp:AV→Heap→Bool) (os:List IOper):(AL→Heap→Bool)→AL→Heap→Bool :=
 List.rec (fun K al H=>K al H) (fun o _ rest K al H=>bopR call o H.length al H (rest K) Kp) os
def bquiet (o:IOper) (al:AL) (H:Heap) (k:AV→Option (Option Nat × AV)→Bool):Bool :=
 match quietValL o al H with
 | some (v,rd)=>forceV v fun v=>k v rd
 | none=>false
def sameL (f:AV→AV→Bool):List AV→List AV→Bool
 | [],[]=>true
 | x::xs,y::ys=>f x y&&sameL f xs ys
 | _,_=>false
def sameN:Nat→AV→AV→Bool
 | 0,_,_=>false
 | n+1,x,y=>match x,y with
  | .bool a,.bool b=>a==b
  | .int k a,.int k' b=>k==k'&&a==b
  | .ptr a b,.ptr c d=>Nat.beq a c&&Nat.beq b d
  | .map a,.map b=>Nat.beq a b
  | .sl a b c d,.sl a' b' c' d'=>Nat.beq a a'&&Nat.beq b b'&&Nat.beq c c'&&Nat.beq d d'
  | .str a,.str b=>a==b
  | .nilslice,.nilslice=>true
  | .nilmap,.nilmap=>true
  | .nilptr,.nilptr=>true
  | .nilfunc,.nilfunc=>true
  | .niliface,.niliface=>true
  | .glob a,.glob b=>Nat.beq a b
  | .agg a,.agg b=>sameL (sameN n) a b
  | .tuple a,.tuple b=>sameL (sameN n) a b
  | .cptr a,.cptr b=>sameL (sameN n) a b
  | .list a x,.list b y=>Nat.beq a b&&sameL (sameN n) x y
  | .clo (.func f) a b,.clo (.func g) c d=>Nat.beq f g&&sameL (sameN n) a c&&sameL (sameN n) b d
  | _,_=>false
def sameV (x y:AV):Bool:=sameN 8 x y
def boblig (ios:List IOper) (B:List (List Nat)) (S:List Rd) (z:Nat) (H':Heap):Bool :=
 match ios[z]? with
 | some o=>bif isQuiet o then true else S.all fun s=>(blen B z).contains s.i||(match rload s.n s.x H' with | some u=>sameV u s.v | none=>false)
 | none=>true
noncomputable def bdraw (call:BCall) (base:Nat) (ios:List IOper) (B:List (List Nat)) (K:AL→Heap→Bool) (s:Sched):List Rd→AL→Heap→Bool :=
 Sched.rec (motive:=fun _=>List Rd→AL→Heap→Bool)
  (fun _ al H=>K al H)
  (fun _ _ _=>true)
  (fun i _ go S al H=>match ios[i]? with
   | some o=>bquiet o al H fun v rd=>go (withRd S i v rd) (setL al o.dst v) H
   | none=>false)
  (fun i _ _ go rest S al H=>(match ios[i]? with
   | some o=>freeB H (rOf base o H)&&Nat.ble base (rOf base o H) &&
     bopR call o (rOf base o H) al H (fun al' H'=>boblig ios B S i H'&&go S al' H') (fun _ _=>false)
   | none=>false)&&rest S al H) s
noncomputable def bcode (call:BCall) (fuel:Nat) (c:IC):(AX→AL→Heap→Bool)→AL→Heap→Bool :=
 IC.rec (motive:=fun _=>(AX→AL→Heap→Bool)→AL→Heap→Bool)
  (fun K al H=>K .normal al H)
  (fun ios keep K al H=>bops call (fun v H=>K (.panic v) [] H) ios (fun al H=>forgetF al keep fun al=>K .normal al H) al H)
  (fun n ios B s keep K al H=>bdraw call H.length ios B (fun al H=>forgetF al keep fun al=>K .normal al H) s [] al (reserve H n))
  (fun _ _ x y K al H=>x (fun e al H=>match e with | .normal=>y K al H | e=>K e al H) al H)
  (fun c _ _ x y K al H=>match evL al c with | .bool true=>x K al H | .bool false=>y K al H | _=>false)
  (fun id _ x K al H=>x (fun e al H=>match e with | .exit id'=>bif Nat.beq id' id then K .normal al H else K (.exit id') al H | e=>K e al H) al H)
  (fun keep _ x K al H=>forgetF al keep fun al=>Nat.rec (motive:=fun _=>AL→Heap→Bool) (fun _ _=>false)
   (fun _ go al H=>x (fun e al H=>match e with | .normal=>forgetF al keep fun al=>go al H | e=>K e al H) al H) fuel al H)
  (fun id K al H=>K (.exit id) al H)
  (fun K al H=>K .ret al H) c
noncomputable def bfun (call:BCall) (fuel:Nat) (F:IFunc) (args:List AV) (H:Heap) (k:ARes→Heap→Bool):Bool :=
 bcode call fuel F.body (fun e al H=>match e with
  | .normal=>match resultL F.rs al H with
   | some v=>k (.ret v) H
   | none=>false
  | .ret=>match resultL F.rs al H with
   | some v=>k (.ret v) H
   | none=>false
  | .panic v=>k (.panic v) H
  | _=>false) (number 0 args) H
noncomputable def bcall (K:FuncId→Option IFunc) (fuel:Nat) (orc:BCall) (d:Nat):BCall :=
 Nat.rec (motive:=fun _=>BCall) orc (fun _ go f args H k=>match K f with
  | some F=>Nat.ble args.length F.n&&bfun go fuel F args H k
  | none=>orc f args H k) d
end Go.Ab
