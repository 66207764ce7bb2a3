/- Part 13 of the proof. -/
import Derived.Test.YtagcckioikbanaaGreatDoorA12
set_option linter.unusedVariables false
set_option linter.unusedSimpArgs false
namespace Go.Ab
variable {P:Program}
theorem z4R {β:Type} (n:Nat) (k:Nat→β):z5R n k=k n:=by cases n<;>rfl
theorem zNZ {β:Type} (n:Int) (k:Int→β):zRa n k=k n:=by
 cases n with
 | ofNat n=>show z5R n (fun n=>k (.ofNat n))=_;rw [z4R]
 | negSucc n=>show z5R n (fun n=>k (.negSucc n))=_;rw [z4R]
theorem zNa {β:Type} (b:Bool) (k:Bool→β):zRb b k=k b:=by cases b<;>rfl
theorem z3d {β:Type} (v:AV) (k:AV→β):z6b v k=k v:=by
 cases v<;>simp only [z6b,zNa,zNZ,z4R]
theorem z8m {α β:Type} {f:α→(α→β)→β} (hf:∀ a k,f a k=k a):∀ (l:List α) (k:List α→β),zGL f l k=k l
 | [],_=>rfl
 | a::l,k=>by
  show f a (fun a=>zGL f l fun t=>k (a::t))=_
  rw [hf,z8m hf l]
theorem zHf {β:Type} (b:Blk) (k:Blk→β):z6z b k=k b:=by
 cases b with
 | cells cs=>simp only [z6z];rw [z8m z3d]
 | map es c=>simp only [z6z,z4R];rw [z8m (fun e k=>by simp only [z3d])]
 | iter m a l c=>simp only [z6z,z4R];rw [z8m z4R]
 | dead=>rfl
 | resv=>rfl
theorem z8n {β:Type}:∀ (H:z0B) (n:Nat) (k:z0B→β),zGM H n k=k H
 | [],_,_=>rfl
 | b::H,0,k=>by
  show z6z b (fun b=>zGM H 1000000000 fun t=>k (b::t))=_
  rw [zHf,z8n H]
 | b::H,n+1,k=>by
  show zGM H n (fun t=>k (b::t))=_
  rw [z8n H]
theorem zNA:∀ (H:z0B) (n:Nat),zZN H n=H[n]?
 | [],n=>by simp;rfl
 | b::H,0=>rfl
 | b::H,n+1=>by
  show zZN H n=_
  rw [zNA H n];simp
theorem zTg {op:IOp} {args:List AV} {H:z0B} {r:Nat} {k:AV→z0B→Bool} (h:bi op args H r k=true):∃ v H',z5p op args H r=some (v,H')∧k v H'=true:=by
 unfold bi at h
 split at h
 ·split at h
  ·rename_i v hv;rw [z3d] at h;exact ⟨v,H,by simp only [z5p,hv],h⟩
  ·cases h
 ·split at h
  ·rename_i n x
   unfold zRj at h
   split at h
   ·rename_i id off
    rw [zNA] at h
    split at h
    ·rename_i cs hg
     split at h
     ·rename_i v hv;simp only [z3d] at h;exact ⟨v,H,by simp only [z5p,z7J,z0p,hg,hv],h⟩
     ·cases h
    ·cases h
   ·rename_i hne
    split at h
    ·rename_i v hv;simp only [z3d] at h;exact ⟨v,H,by simp only [z5p,z7J,hv],h⟩
    ·cases h
  ·cases h
 ·rw [z4R] at h
  split at h
  ·rename_i v H' hv;rw [z3d,z8n] at h;exact ⟨v,H',hv,h⟩
  ·cases h
theorem zJj {β:Type} (al:AL):∀ (ks:List Nat) (k:AL→β),zSk al ks k=k (z1g al ks)
 | [],_=>rfl
 | t::ks,k=>by
  show z6b (z1e al t) (fun v=>zSk al ks fun l=>k ((t,v)::l))=_
  rw [z3d,zJj al ks];rfl
theorem z6y {β:Type} (al:AL) (keep:Option (List Nat)) (k:AL→β):z4r al keep k=k (forget al keep):=by
 cases keep with
 | none=>rfl
 | some ks=>exact zJj al ks k
theorem z3y {f:AV→AV→Bool} (hf:∀ x y,f x y=true→x=y):∀ {a b:List AV},z9L f a b=true→a=b
 | [],[],_=>rfl
 | [],_::_,h=>by cases h
 | _::_,[],h=>by cases h
 | x::xs,y::ys,h=>by
  simp only [z9L,lAS] at h
  rw [hf _ _ h.1,z3y hf h.2]
theorem z5j:∀ (n:Nat) (x y:AV),zDn n x y=true→x=y
 | 0,_,_,h=>by cases h
 | n+1,x,y,h=>by
  unfold zDn at h
  split at h
  ·rw [eq_of_beq h]
  ·rw [lAS] at h;rw [eq_of_beq h.1,eq_of_beq h.2]
  ·rw [lAS] at h;rw [lA2 h.1,lA2 h.2]
  ·rw [lA2 h]
  ·simp only [lAS] at h
   rw [lA2 h.1.1.1,lA2 h.1.1.2,lA2 h.1.2,lA2 h.2]
  ·rw [eq_of_beq h]
  ·rfl
  ·rfl
  ·rfl
  ·rfl
  ·rfl
  ·rw [lA2 h]
  ·rw [z3y (z5j n) h]
  ·rw [z3y (z5j n) h]
  ·rw [z3y (z5j n) h]
  ·rw [lAS] at h;rw [lA2 h.1,z3y (z5j n) h.2]
  ·simp only [lAS] at h
   rw [lA2 h.1.1,z3y (z5j n) h.1.2,z3y (z5j n) h.2]
  ·cases h
theorem z4Y {x y:AV} (h:zBA x y=true):x=y:=z5j 8 x y h
def z4e (P:Program) (call:z3h):Prop :=
 ∀ f args H k (Q:z2g),call f args H k=true→(∀ r H',k r H'=true→Q r H')→hasBody P f=true∧z0C P f args H Q
section
variable {call:z3h} (hcall:z4e P call)
include hcall
theorem zBw {o:IOper} {r:Nat} {al:AL} {H:z0B} {K:AL→z0B→Bool} {Kp:AV→z0B→Bool} {K':KL} {Qp:AL→AV→z0B→Prop}
  (h:zQy call o r al H K Kp=true) (hk:∀ al H,K al H=true→K' al H) (hp:∀ al v H,Kp v H=true→Qp al v H):z4F P o r al H K' Qp:=by
 have bk:∀ r H',(match r with | .ret v=>K (z9y al o.dst v) H' | .panic v=>Kp v H')=true→zCQ o.dst al K' Qp r H':=by
  intro r H' q
  cases r with
  | ret v=>exact hk _ _ q
  | panic v=>exact hp _ _ _ q
 unfold zQy at h
 unfold z4F
 split at h
 ·rename_i op hop
  simp only [hop]
  obtain ⟨v,H',hv,h⟩:=zTg h
  simp only [hv];exact hk _ _ h
 ·rename_i f hop
  simp only [hop]
  exact (hcall _ _ _ _ _ h bk).2
 ·rename_i hop
  simp only [hop]
  split at h
  ·rename_i f fs cs vs hv;simp only [hv];exact hcall _ _ _ _ _ h bk
  ·cases h
 ·rename_i hop
  simp only [hop]
  split at h
  ·rename_i t v hv;simp only [hv];exact hp _ _ _ h
  ·cases h
 ·rename_i hop
  simp only [hop]
  split at h
  ·rename_i l hv;simp only [hv];exact fun x hx=>by have:=lAZ.1 h x hx;rw [z8n] at this;exact hk _ _ this
  ·cases h
theorem zDP {o:IOper} {r:Nat} {al:AL} {H:z0B} {K:AL→z0B→Bool} {Kp:AV→z0B→Bool} {K':KL} {Qp:AL→AV→z0B→Prop}
  (h:zYX call o r al H K Kp=true) (hk:∀ al H,K al H=true→K' al H) (hp:∀ al v H,Kp v H=true→Qp al v H):zKW P o r al H K' Qp:=by
 unfold zYX at h
 unfold zKW
 split at h
 ·rename_i hg;simp only [hg];exact zBw hcall h hk hp
 ·rename_i g want hg
  simp only [hg]
  split at h
  ·rename_i b hb
   simp only [hb]
   cases e:b==want with
   | true=>rw [e] at h;rw [if_pos (by simpa using e)];exact zBw hcall h hk hp
   | false=>rw [e] at h;rw [if_neg (by simpa using e)];exact hk _ _ h
  ·rename_i hb;simp only [hb];exact hk _ _ h
  ·cases h
theorem zDN {Kp:AV→z0B→Bool} {K:AL→z0B→Bool} {K':KL} {Qp:AL→AV→z0B→Prop} (hk:∀ al H,K al H=true→K' al H) (hp:∀ al v H,Kp v H=true→Qp al v H) :
  ∀ (os:List IOper) (al:AL) (H:z0B),zYv call Kp os K al H=true→z7W P os al H K' Qp
 | [],al,H,h=>hk _ _ h
 | o::os,al,H,h=>zDP hcall (K:=zYv call Kp os K) h (fun al H q=>zDN hk hp os al H q) hp
theorem z5t {base:Nat} {ios:List IOper} {B:List (List Nat)} {K:AL→z0B→Bool} {K':KL} (hk:∀ al H,K al H=true→K' al H) :
  ∀ (s:Sched) (S:List Rd) (al:AL) (H:z0B),zLZ call base ios B K s S al H=true→vsL P base ios B K' (fun _=>False) s S al H
 | .done,S,al,H,h=>hk _ _ h
 | .stop,S,al,H,h=>trivial
 | .quiet i s,S,al,H,h=>by
  have h:(match ios[i]? with
   | some o=>zPG o al H fun v rd=>zLZ call base ios B K s (z7z S i v rd) (z9y al o.dst v) H
   | none=>false)=true:=h
  simp only [vsL]
  split at h
  ·rename_i o ho
   unfold zPG at h
   split at h
   ·rename_i v rd hq
    rw [z3d] at h
    simp only [ho,hq]
    exact z5t hk s _ _ _ h
   ·cases h
  ·cases h
 | .branch i s r,S,al,H,h=>by
  have h:((match ios[i]? with
   | some o=>z9Y H (rOf base o H)&&Nat.ble base (rOf base o H) &&
     zYX call o (rOf base o H) al H (fun al' H'=>zPJ ios B S i H'&&zLZ call base ios B K s S al' H') (fun _ _=>false)
   | none=>false)&&zLZ call base ios B K r S al H)=true:=h
  rw [lAS] at h
  obtain ⟨h1,h2⟩:=h
  simp only [vsL]
  refine ⟨?_,?_⟩
  ·split at h1
   ·rename_i o ho
    simp only [lAS] at h1
    simp only [ho]
    refine ⟨h1.1.1,h1.1.2,zDP hcall h1.2 ?_ (fun _ _ _ q=>by cases q)⟩
    intro al' H' q
    rw [lAS] at q
    refine ⟨?_,z5t hk s S al' H' q.2⟩
    have q1:=q.1
    unfold zPJ at q1
    unfold z5v
    split at q1
    ·rename_i o' ho'
     cases hq:z1H o' with
     | true=>simp only [ho',hq,if_true]
     | false =>
      rw [hq] at q1
      simp only [cond_false] at q1
      simp only [ho',hq,lAX,if_false]
      intro x hx hxc
      have:=lAZ.1 q1 x hx
      rw [hxc,lCP] at this
      split at this
      ·rename_i u hu;rw [hu,z4Y this]
      ·cases this
    ·rename_i hn;rw [hn] at ho;cases ho
   ·cases h1
  ·split
   ·trivial
   ·exact z5t hk r S al H h2
def zTm (K:AX→AL→z0B→Bool) (Q:PL):Prop:=∀ x al H,K x al H=true→∀ al',(x.isPanic=false→al'=al)→Q x al' H
omit hcall in
theorem zTm.at {K:AX→AL→z0B→Bool} {Q:PL} (h:zTm K Q) {x:AX} {al:AL} {H:z0B} (k:K x al H=true):Q x al H:=h x al H k al fun _=>rfl
theorem z2V (fuel:Nat):∀ (c:IC) (K:AX→AL→z0B→Bool) (Q:PL),zTm K Q→∀ (al:AL) (H:z0B),zCK call fuel c K al H=true→iwp P c Q al H
 | .skip,K,Q,hq,al,H,h=>hq.at h
 | .ret,K,Q,hq,al,H,h=>hq.at h
 | .exit id,K,Q,hq,al,H,h=>hq.at h
 | .region ios keep,K,Q,hq,al,H,h=>by
  have h:zYv call (fun v H=>K (.panic v) [] H) ios (fun al H=>z4r al keep fun al=>K .normal al H) al H=true:=h
  simp only [iwp]
  refine zDN hcall ?_ ?_ ios al H h
  ·intro al H q;rw [z6y] at q;exact hq.at q
  ·intro al v H q;exact hq _ _ _ q al (fun e=>by simp [AX.isPanic] at e)
 | .draw n ios B s keep,K,Q,hq,al,H,h=>by
  have h:zLZ call H.length ios B (fun al H=>z4r al keep fun al=>K .normal al H) s [] al (z1P H n)=true:=h
  simp only [iwp]
  refine ⟨fun _=>False,fun _ _ f=>f.elim,z5t hcall ?_ s [] al _ h⟩
  intro al H q;rw [z6y] at q;exact hq.at q
 | .seq a b,K,Q,hq,al,H,h=>by
  have h:zCK call fuel a (fun e al H=>match e with | .normal=>zCK call fuel b K al H | e=>K e al H) al H=true:=h
  simp only [iwp]
  refine z2V fuel a _ _ ?_ al H h
  intro x al H q al' hal
  cases x with
  | normal=>cases hal rfl;exact z2V fuel b K Q hq al H q
  | exit id=>exact hq _ _ _ q al' hal
  | goto id=>exact hq _ _ _ q al' hal
  | ret=>exact hq _ _ _ q al' hal
  | panic v=>exact hq _ _ _ q al' hal
 | .cond c a b,K,Q,hq,al,H,h=>by
  have h:(match evL al c with | .bool true=>zCK call fuel a K al H | .bool false=>zCK call fuel b K al H | _=>false)=true:=h
  simp only [iwp]
  split at h
  ·rename_i e;simp only [e];exact z2V fuel a K Q hq al H h
  ·rename_i e;simp only [e];exact z2V fuel b K Q hq al H h
  ·cases h
 | .block id c,K,Q,hq,al,H,h=>by
  have h:zCK call fuel c (fun e al H=>match e with | .exit id'=>bif Nat.beq id' id then K .normal al H else K (.exit id') al H | e=>K e al H) al H=true:=h
  simp only [iwp]
  refine z2V fuel c _ _ ?_ al H h
  intro x al H q al' hal
  cases x with
  | normal=>exact hq _ _ _ q al' hal
  | exit id' =>
   cases hal rfl
   simp only at q
   simp only [LX.inBlock]
   cases e:Nat.beq id' id with
   | true=>rw [e] at q;rw [if_pos (lA2 e)];exact hq.at q
   | false=>rw [e] at q;rw [if_neg (Nat.ne_of_beq_eq_false e)];exact hq.at q
  | goto id=>exact hq _ _ _ q al' hal
  | ret=>exact hq _ _ _ q al' hal
  | panic v=>exact hq _ _ _ q al' hal
 | .loop keep c,K,Q,hq,al,H,h=>by
  let R:Nat→AL→z0B→Bool:=fun n=>Nat.rec (motive:=fun _=>AL→z0B→Bool) (fun _ _=>false)
   (fun _ go al H=>zCK call fuel c (fun e al H=>match e with | .normal=>z4r al keep fun al=>go al H | e=>K e al H) al H) n
  have h:z4r al keep (fun al=>R fuel al H)=true:=h
  rw [z6y] at h
  simp only [iwp]
  refine ⟨fun n al H=>R n al H=true,fuel,h,?_⟩
  intro n al H hr
  cases n with
  | zero=>cases hr
  | succ n =>
   have hr:zCK call fuel c (fun e al H=>match e with | .normal=>z4r al keep fun al=>R n al H | e=>K e al H) al H=true:=hr
   refine z2V fuel c _ _ ?_ al H hr
   intro x al H q al' hal
   cases x with
   | normal =>
    cases hal rfl
    simp only at q
    rw [z6y] at q
    exact ⟨n,Nat.lt_succ_self _,q⟩
   | exit id=>exact hq _ _ _ q al' hal
   | goto id=>exact hq _ _ _ q al' hal
   | ret=>exact hq _ _ _ q al' hal
   | panic v=>exact hq _ _ _ q al' hal
theorem zDQ {fuel:Nat} {F:IFunc} {args:List AV} {H:z0B} {k:ARes→z0B→Bool} {Q:z2g} (h:zYw call fuel F args H k=true) (hq:∀ r H,k r H=true→Q r H) :
  iwp P F.body (z4P F.rs Q) (z7N 0 args) H:=by
 refine z2V hcall fuel _ _ _ ?_ _ _ h
 intro x al H q al' hal
 cases x with
 | normal =>
  cases hal rfl
  simp only at q
  split at q
  ·rename_i v hv;exact ⟨v,hv,hq _ _ q⟩
  ·cases q
 | ret =>
  cases hal rfl
  simp only at q
  split at q
  ·rename_i v hv;exact ⟨v,hv,hq _ _ q⟩
  ·cases q
 | panic v=>exact hq _ _ q
 | exit id=>cases q
 | goto id=>cases q
end
theorem Is.hasBody {f:FuncId} {anns:List Ann} {F:IFunc} (h:Is P f anns F):hasBody P f=true:=by
 unfold Is at h
 unfold Go.Ab.hasBody
 split at h
 ·rename_i fn hf
  rw [hf]
  split at h
  ·rename_i c hb;simp [hb]
  ·exact h.elim
 ·exact h.elim
theorem z7v (hnn:z6j P) (hm:P.follows .mixedOrders=true) {K:FuncId→Option IFunc} {fuel:Nat} {orc:z3h} (ho:z4e P orc) (hK:∀ f F,K f=some F→∃ anns,Is P f anns F):∀ d,z4e P (zQz K fuel orc d)
 | 0=>ho
 | d+1=>by
  intro f args H k Q h hq
  have h:(match K f with
   | some F=>Nat.ble args.length F.n&&zYw (zQz K fuel orc d) fuel F args H k
   | none=>orc f args H k)=true:=h
  split at h
  ·rename_i F hF
   obtain ⟨anns,hi⟩:=hK f F hF
   rw [lAS] at h
   exact ⟨hi.hasBody,hi.call hnn hm h.1 (zDQ (z7v hnn hm ho hK d) h.2 hq)⟩
  ·exact ho _ _ _ _ _ h hq
end Go.Ab
