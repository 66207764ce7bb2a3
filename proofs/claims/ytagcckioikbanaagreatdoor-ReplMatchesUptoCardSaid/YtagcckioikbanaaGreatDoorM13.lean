/- Part 13 of the proof. -/
import Derived.Test.YtagcckioikbanaaGreatDoorM12
set_option linter.unusedVariables false
set_option linter.unusedSimpArgs false
namespace Go.Ab
variable {P:Program}
theorem z3p {β:Type} (n:Nat) (k:Nat→β):z4v n k=k n:=by cases n<;>rfl
theorem zMX {β:Type} (n:Int) (k:Int→β):zQa n k=k n:=by
 cases n with
 | ofNat n=>show z4v n (fun n=>k (.ofNat n))=_;rw [z3p]
 | negSucc n=>show z4v n (fun n=>k (.negSucc n))=_;rw [z3p]
theorem zMY {β:Type} (b:Bool) (k:Bool→β):zQb b k=k b:=by cases b<;>rfl
theorem z3K {β:Type} (v:AV) (k:AV→β):z5w v k=k v:=by
 cases v<;>simp only [z5w,zMY,zMX,z3p]
theorem z8B {α β:Type} {f:α→(α→β)→β} (hf:∀ a k,f a k=k a):∀ (l:List α) (k:List α→β),zFK f l k=k l
 | [],_=>rfl
 | a::l,k=>by
  show f a (fun a=>zFK f l fun t=>k (a::t))=_
  rw [hf,z8B hf l]
theorem zGc {β:Type} (b:Blk) (k:Blk→β):z6W b k=k b:=by
 cases b with
 | cells cs=>simp only [z6W];rw [z8B z3K]
 | map es c=>simp only [z6W,z3p];rw [z8B (fun e k=>by simp only [z3K])]
 | iter m a l c=>simp only [z6W,z3p];rw [z8B z3p]
 | dead=>rfl
 | resv=>rfl
theorem z8C {β:Type}:∀ (H:z0B) (n:Nat) (k:z0B→β),zFL H n k=k H
 | [],_,_=>rfl
 | b::H,0,k=>by
  show z6W b (fun b=>zFL H 1000000000 fun t=>k (b::t))=_
  rw [zGc,z8C H]
 | b::H,n+1,k=>by
  show zFL H n (fun t=>k (b::t))=_
  rw [z8C H]
theorem zLx:∀ (H:z0B) (n:Nat),zYA H n=H[n]?
 | [],n=>by simp;rfl
 | b::H,0=>rfl
 | b::H,n+1=>by
  show zYA H n=_
  rw [zLx H n];simp
theorem zSZ {op:IOp} {args:List AV} {H:z0B} {r:Nat} {k:AV→z0B→Bool} (h:bi op args H r k=true):∃ v H',z5a op args H r=some (v,H')∧k v H'=true:=by
 unfold bi at h
 split at h
 ·split at h
  ·rename_i v hv;rw [z3K] at h;exact ⟨v,H,by simp only [z5a,hv],h⟩
  ·cases h
 ·split at h
  ·rename_i n x
   unfold zQm at h
   split at h
   ·rename_i id off
    rw [zLx] at h
    split at h
    ·rename_i cs hg
     split at h
     ·rename_i v hv;simp only [z3K] at h;exact ⟨v,H,by simp only [z5a,z6m,z0h,hg,hv],h⟩
     ·cases h
    ·cases h
   ·rename_i hne
    split at h
    ·rename_i v hv;simp only [z3K] at h;exact ⟨v,H,by simp only [z5a,z6m,hv],h⟩
    ·cases h
  ·cases h
 ·rw [z3p] at h
  split at h
  ·rename_i v H' hv;rw [z3K,z8C] at h;exact ⟨v,H',hv,h⟩
  ·cases h
theorem zHn {β:Type} (al:AL):∀ (ks:List Nat) (k:AL→β),zRh al ks k=k (z1d al ks)
 | [],_=>rfl
 | t::ks,k=>by
  show z5w (z2V al t) (fun v=>zRh al ks fun l=>k ((t,v)::l))=_
  rw [z3K,zHn al ks];rfl
theorem z6V {β:Type} (al:AL) (keep:Option (List Nat)) (k:AL→β):z4R al keep k=k (forget al keep):=by
 cases keep with
 | none=>rfl
 | some ks=>exact zHn al ks k
theorem z3W {f:AV→AV→Bool} (hf:∀ x y,f x y=true→x=y):∀ {a b:List AV},z8Z f a b=true→a=b
 | [],[],_=>rfl
 | [],_::_,h=>by cases h
 | _::_,[],h=>by cases h
 | x::xs,y::ys,h=>by
  simp only [z8Z,lAQ] at h
  rw [hf _ _ h.1,z3W hf h.2]
theorem z5H:∀ (n:Nat) (x y:AV),zCq n x y=true→x=y
 | 0,_,_,h=>by cases h
 | n+1,x,y,h=>by
  unfold zCq at h
  split at h
  ·rw [eq_of_beq h]
  ·rw [lAQ] at h;rw [eq_of_beq h.1,eq_of_beq h.2]
  ·rw [lAQ] at h;rw [lAY h.1,lAY h.2]
  ·rw [lAY h]
  ·simp only [lAQ] at h
   rw [lAY h.1.1.1,lAY h.1.1.2,lAY h.1.2,lAY h.2]
  ·rw [eq_of_beq h]
  ·rfl
  ·rfl
  ·rfl
  ·rfl
  ·rfl
  ·rw [lAY h]
  ·rw [z3W (z5H n) h]
  ·rw [z3W (z5H n) h]
  ·rw [z3W (z5H n) h]
  ·rw [lAQ] at h;rw [lAY h.1,z3W (z5H n) h.2]
  ·simp only [lAQ] at h
   rw [lAY h.1.1,z3W (z5H n) h.1.2,z3W (z5H n) h.2]
  ·cases h
theorem z4B {x y:AV} (h:zAL x y=true):x=y:=z5H 8 x y h
def z4G (P:Program) (call:z3M):Prop :=
 ∀ f args H k (Q:z2U),call f args H k=true→(∀ r H',k r H'=true→Q r H')→hasBody P f=true∧z0D P f args H Q
section
variable {call:z3M} (hcall:z4G P call)
include hcall
theorem zBD {o:IOper} {r:Nat} {al:AL} {H:z0B} {K:AL→z0B→Bool} {Kp:AV→z0B→Bool} {K':KL} {Qp:AL→AV→z0B→Prop}
  (h:zQA call o r al H K Kp=true) (hk:∀ al H,K al H=true→K' al H) (hp:∀ al v H,Kp v H=true→Qp al v H):z3w P o r al H K' Qp:=by
 have bk:∀ r H',(match r with | .ret v=>K (z9H al o.dst v) H' | .panic v=>Kp v H')=true→zBU o.dst al K' Qp r H':=by
  intro r H' q
  cases r with
  | ret v=>exact hk _ _ q
  | panic v=>exact hp _ _ _ q
 unfold zQA at h
 unfold z3w
 split at h
 ·rename_i op hop
  simp only [hop]
  obtain ⟨v,H',hv,h⟩:=zSZ h
  simp only [hv];exact hk _ _ h
 ·rename_i f hop
  simp only [hop]
  exact (hcall _ _ _ _ _ h bk).2
 ·rename_i hop
  simp only [hop]
  split at h
  ·rename_i f fs cs vs hv;simp only [hv];exact hcall _ _ _ _ _ h bk
  ·cases h
 ·rename_i hop
  simp only [hop]
  split at h
  ·rename_i t v hv;simp only [hv];exact hp _ _ _ h
  ·cases h
 ·rename_i hop
  simp only [hop]
  split at h
  ·rename_i l hv;simp only [hv];exact fun x hx=>by have:=lAX.1 h x hx;rw [z8C] at this;exact hk _ _ this
  ·cases h
theorem zCS {o:IOper} {r:Nat} {al:AL} {H:z0B} {K:AL→z0B→Bool} {Kp:AV→z0B→Bool} {K':KL} {Qp:AL→AV→z0B→Prop}
  (h:zXM call o r al H K Kp=true) (hk:∀ al H,K al H=true→K' al H) (hp:∀ al v H,Kp v H=true→Qp al v H):zKe P o r al H K' Qp:=by
 unfold zXM at h
 unfold zKe
 split at h
 ·rename_i hg;simp only [hg];exact zBD hcall h hk hp
 ·rename_i g want hg
  simp only [hg]
  split at h
  ·rename_i b hb
   simp only [hb]
   cases e:b==want with
   | true=>rw [e] at h;rw [if_pos (by simpa using e)];exact zBD hcall h hk hp
   | false=>rw [e] at h;rw [if_neg (by simpa using e)];exact hk _ _ h
  ·rename_i hb;simp only [hb];exact hk _ _ h
  ·cases h
theorem zCR {Kp:AV→z0B→Bool} {K:AL→z0B→Bool} {K':KL} {Qp:AL→AV→z0B→Prop} (hk:∀ al H,K al H=true→K' al H) (hp:∀ al v H,Kp v H=true→Qp al v H) :
  ∀ (os:List IOper) (al:AL) (H:z0B),zXf call Kp os K al H=true→z6v P os al H K' Qp
 | [],al,H,h=>hk _ _ h
 | o::os,al,H,h=>zCS hcall (K:=zXf call Kp os K) h (fun al H q=>zCR hk hp os al H q) hp
theorem z5R {base:Nat} {ios:List IOper} {B:List (List Nat)} {K:AL→z0B→Bool} {K':KL} (hk:∀ al H,K al H=true→K' al H) :
  ∀ (s:Sched) (S:List Rd) (al:AL) (H:z0B),zKV call base ios B K s S al H=true→vsL P base ios B K' (fun _=>False) s S al H
 | .done,S,al,H,h=>hk _ _ h
 | .stop,S,al,H,h=>trivial
 | .quiet i s,S,al,H,h=>by
  have h:(match ios[i]? with
   | some o=>zND o al H fun v rd=>zKV call base ios B K s (z7U S i v rd) (z9H al o.dst v) H
   | none=>false)=true:=h
  simp only [vsL]
  split at h
  ·rename_i o ho
   unfold zND at h
   split at h
   ·rename_i v rd hq
    rw [z3K] at h
    simp only [ho,hq]
    exact z5R hk s _ _ _ h
   ·cases h
  ·cases h
 | .branch i s r,S,al,H,h=>by
  have h:((match ios[i]? with
   | some o=>z9J H (rOf base o H)&&Nat.ble base (rOf base o H) &&
     zXM call o (rOf base o H) al H (fun al' H'=>zNH ios B S i H'&&zKV call base ios B K s S al' H') (fun _ _=>false)
   | none=>false)&&zKV call base ios B K r S al H)=true:=h
  rw [lAQ] at h
  obtain ⟨h1,h2⟩:=h
  simp only [vsL]
  refine ⟨?_,?_⟩
  ·split at h1
   ·rename_i o ho
    simp only [lAQ] at h1
    simp only [ho]
    refine ⟨h1.1.1,h1.1.2,zCS hcall h1.2 ?_ (fun _ _ _ q=>by cases q)⟩
    intro al' H' q
    rw [lAQ] at q
    refine ⟨?_,z5R hk s S al' H' q.2⟩
    have q1:=q.1
    unfold zNH at q1
    unfold z5s
    split at q1
    ·rename_i o' ho'
     cases hq:z0v o' with
     | true=>simp only [ho',hq,if_true]
     | false =>
      rw [hq] at q1
      simp only [cond_false] at q1
      simp only [ho',hq,lAV,if_false]
      intro x hx hxc
      have:=lAX.1 q1 x hx
      rw [hxc,lCL] at this
      split at this
      ·rename_i u hu;rw [hu,z4B this]
      ·cases this
    ·rename_i hn;rw [hn] at ho;cases ho
   ·cases h1
  ·split
   ·trivial
   ·exact z5R hk r S al H h2
def zSf (K:AX→AL→z0B→Bool) (Q:PL):Prop:=∀ x al H,K x al H=true→∀ al',(x.isPanic=false→al'=al)→Q x al' H
omit hcall in
theorem zSf.at {K:AX→AL→z0B→Bool} {Q:PL} (h:zSf K Q) {x:AX} {al:AL} {H:z0B} (k:K x al H=true):Q x al H:=h x al H k al fun _=>rfl
theorem z2H (fuel:Nat):∀ (c:IC) (K:AX→AL→z0B→Bool) (Q:PL),zSf K Q→∀ (al:AL) (H:z0B),zBR call fuel c K al H=true→iwp P c Q al H
 | .skip,K,Q,hq,al,H,h=>hq.at h
 | .ret,K,Q,hq,al,H,h=>hq.at h
 | .exit id,K,Q,hq,al,H,h=>hq.at h
 | .region ios keep,K,Q,hq,al,H,h=>by
  have h:zXf call (fun v H=>K (.panic v) [] H) ios (fun al H=>z4R al keep fun al=>K .normal al H) al H=true:=h
  simp only [iwp]
  refine zCR hcall ?_ ?_ ios al H h
  ·intro al H q;rw [z6V] at q;exact hq.at q
  ·intro al v H q;exact hq _ _ _ q al (fun e=>by simp [AX.isPanic] at e)
 | .draw n ios B s keep,K,Q,hq,al,H,h=>by
  have h:zKV call H.length ios B (fun al H=>z4R al keep fun al=>K .normal al H) s [] al (z1Q H n)=true:=h
  simp only [iwp]
  refine ⟨fun _=>False,fun _ _ f=>f.elim,z5R hcall ?_ s [] al _ h⟩
  intro al H q;rw [z6V] at q;exact hq.at q
 | .seq a b,K,Q,hq,al,H,h=>by
  have h:zBR call fuel a (fun e al H=>match e with | .normal=>zBR call fuel b K al H | e=>K e al H) al H=true:=h
  simp only [iwp]
  refine z2H fuel a _ _ ?_ al H h
  intro x al H q al' hal
  cases x with
  | normal=>cases hal rfl;exact z2H fuel b K Q hq al H q
  | exit id=>exact hq _ _ _ q al' hal
  | goto id=>exact hq _ _ _ q al' hal
  | ret=>exact hq _ _ _ q al' hal
  | panic v=>exact hq _ _ _ q al' hal
 | .cond c a b,K,Q,hq,al,H,h=>by
  have h:(match evL al c with | .bool true=>zBR call fuel a K al H | .bool false=>zBR call fuel b K al H | _=>false)=true:=h
  simp only [iwp]
  split at h
  ·rename_i e;simp only [e];exact z2H fuel a K Q hq al H h
  ·rename_i e;simp only [e];exact z2H fuel b K Q hq al H h
  ·cases h
 | .block id c,K,Q,hq,al,H,h=>by
  have h:zBR call fuel c (fun e al H=>match e with | .exit id'=>bif Nat.beq id' id then K .normal al H else K (.exit id') al H | e=>K e al H) al H=true:=h
  simp only [iwp]
  refine z2H fuel c _ _ ?_ al H h
  intro x al H q al' hal
  cases x with
  | normal=>exact hq _ _ _ q al' hal
  | exit id' =>
   cases hal rfl
   simp only at q
   simp only [LX.inBlock]
   cases e:Nat.beq id' id with
   | true=>rw [e] at q;rw [if_pos (lAY e)];exact hq.at q
   | false=>rw [e] at q;rw [if_neg (Nat.ne_of_beq_eq_false e)];exact hq.at q
  | goto id=>exact hq _ _ _ q al' hal
  | ret=>exact hq _ _ _ q al' hal
  | panic v=>exact hq _ _ _ q al' hal
 | .loop keep c,K,Q,hq,al,H,h=>by
  let R:Nat→AL→z0B→Bool:=fun n=>Nat.rec (motive:=fun _=>AL→z0B→Bool) (fun _ _=>false)
   (fun _ go al H=>zBR call fuel c (fun e al H=>match e with | .normal=>z4R al keep fun al=>go al H | e=>K e al H) al H) n
  have h:z4R al keep (fun al=>R fuel al H)=true:=h
  rw [z6V] at h
  simp only [iwp]
  refine ⟨fun n al H=>R n al H=true,fuel,h,?_⟩
  intro n al H hr
  cases n with
  | zero=>cases hr
  | succ n =>
   have hr:zBR call fuel c (fun e al H=>match e with | .normal=>z4R al keep fun al=>R n al H | e=>K e al H) al H=true:=hr
   refine z2H fuel c _ _ ?_ al H hr
   intro x al H q al' hal
   cases x with
   | normal =>
    cases hal rfl
    simp only at q
    rw [z6V] at q
    exact ⟨n,Nat.lt_succ_self _,q⟩
   | exit id=>exact hq _ _ _ q al' hal
   | goto id=>exact hq _ _ _ q al' hal
   | ret=>exact hq _ _ _ q al' hal
   | panic v=>exact hq _ _ _ q al' hal
theorem zCT {fuel:Nat} {F:IFunc} {args:List AV} {H:z0B} {k:ARes→z0B→Bool} {Q:z2U} (h:zXg call fuel F args H k=true) (hq:∀ r H,k r H=true→Q r H) :
  iwp P F.body (z3m F.rs Q) (z6k 0 args) H:=by
 refine z2H hcall fuel _ _ _ ?_ _ _ h
 intro x al H q al' hal
 cases x with
 | normal =>
  cases hal rfl
  simp only at q
  split at q
  ·rename_i v hv;exact ⟨v,hv,hq _ _ q⟩
  ·cases q
 | ret =>
  cases hal rfl
  simp only at q
  split at q
  ·rename_i v hv;exact ⟨v,hv,hq _ _ q⟩
  ·cases q
 | panic v=>exact hq _ _ q
 | exit id=>cases q
 | goto id=>cases q
end
theorem Is.hasBody {f:FuncId} {anns:List Ann} {F:IFunc} (h:Is P f anns F):hasBody P f=true:=by
 unfold Is at h
 unfold Go.Ab.hasBody
 split at h
 ·rename_i fn hf
  rw [hf]
  split at h
  ·rename_i c hb;simp [hb]
  ·exact h.elim
 ·exact h.elim
theorem z7P (hnn:z6F P) (hm:P.follows .mixedOrders=true) {K:FuncId→Option IFunc} {fuel:Nat} {orc:z3M} (ho:z4G P orc) (hK:∀ f F,K f=some F→∃ anns,Is P f anns F):∀ d,z4G P (zQB K fuel orc d)
 | 0=>ho
 | d+1=>by
  intro f args H k Q h hq
  have h:(match K f with
   | some F=>Nat.ble args.length F.n&&zXg (zQB K fuel orc d) fuel F args H k
   | none=>orc f args H k)=true:=h
  split at h
  ·rename_i F hF
   obtain ⟨anns,hi⟩:=hK f F hF
   rw [lAQ] at h
   exact ⟨hi.hasBody,hi.call hnn hm h.1 (zCT (z7P hnn hm ho hK d) h.2 hq)⟩
  ·exact ho _ _ _ _ _ h hq
end Go.Ab
