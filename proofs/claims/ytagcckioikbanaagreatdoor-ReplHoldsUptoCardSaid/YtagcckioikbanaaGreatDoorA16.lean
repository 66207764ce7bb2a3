/- Part 16 of the proof. -/
import Derived.Test.YtagcckioikbanaaGreatDoorA13
import Derived.Test.YtagcckioikbanaaGreatDoorA15
set_option linter.unusedVariables false
set_option linter.unusedSimpArgs false
namespace Go.Ab
inductive FT where
 | leaf
 | node (l:FT) (f:Nat) (F:IFunc) (r:FT)
noncomputable def FT.get (t:FT) (f:Nat):Option IFunc :=
 FT.rec none (fun _ g F _ l r=>bif Nat.beq f g then some F else bif Nat.blt f g then l else r) t
def FT.ok (P:Program):FT→Prop
 | .leaf=>True
 | .node l f F r=>l.ok P∧(∃ anns,Is P f anns F)∧r.ok P
theorem FT.ok_get {P:Program}:∀ {t:FT},t.ok P→∀ f F,t.get f=some F→∃ anns,Is P f anns F
 | .leaf,_,f,F,h=>by cases h
 | .node l g G r,⟨h1,h2,h3⟩,f,F,h=>by
  have h:(bif Nat.beq f g then some G else bif Nat.blt f g then l.get f else r.get f)=some F:=h
  cases e:Nat.beq f g with
  | true=>rw [e] at h;injection h with h;subst h;rw [lA2 e];exact h2
  | false =>
   rw [e] at h
   cases e2:Nat.blt f g with
   | true=>rw [e2] at h;exact ok_get h1 f F h
   | false=>rw [e2] at h;exact ok_get h3 f F h
end Go.Ab
namespace Go.Ab
variable {P:Program} {H:z0B}
def zKm:z0B→z0B→Bool
 | [],[]=>true
 | a::x,b::y=>zKn a b&&zKm x y
 | _,_=>false
theorem zJT:∀ {x y:z0B},zKm x y=true→x=y
 | [],[],_=>rfl
 | [],_::_,h=>by cases h
 | _::_,[],h=>by cases h
 | a::x,b::y,h=>by
  simp only [zKm,lAS] at h
  rw [zJV h.1,zJT h.2]
structure OE where
 f:Nat
 args:List AV
 H:z0B
 r:ARes
 K:z0B
def OE.ok (P:Program) (e:OE):Prop:=hasBody P e.f=true∧z0C P e.f e.args e.H (fun r H=>r=e.r∧H=e.K)
def zQN (es:List OE) (base:z3h):z3h:=fun f args H k =>
 match es with
 | []=>base f args H k
 | e::es=>bif Nat.beq e.f f&&(z9L zBA e.args args&&zKm e.H H) then k e.r e.K else zQN es base f args H k
theorem zJa {base:z3h} (hb:z4e P base):∀ {es:List OE},(∀ e∈es,e.ok P)→z4e P (zQN es base)
 | [],_=>hb
 | e::es,h=>by
  intro f args H k Q hk hq
  have hk:(bif Nat.beq e.f f&&(z9L zBA e.args args&&zKm e.H H) then k e.r e.K else zQN es base f args H k)=true:=hk
  cases hc:(Nat.beq e.f f&&(z9L zBA e.args args&&zKm e.H H)) with
  | true =>
   rw [hc] at hk
   simp only [lAS] at hc
   obtain ⟨h1,h2,h3⟩:=hc
   have h1:=lA2 h1
   have h2:=z3y (fun x y q=>z4Y q) h2
   have h3:=zJT h3
   subst h1;subst h2;subst h3
   obtain ⟨a,b⟩:=h e (by simp)
   exact ⟨a,b.mono fun r H' ⟨e1,e2⟩=>by subst e1;subst e2;exact hq _ _ hk⟩
  | false =>
   rw [hc] at hk
   exact zJa hb (fun x hx=>h x (by simp [hx])) f args H k Q hk hq
def zMp:z3h:=fun _ _ _ _=>false
theorem zKu:z4e P zMp:=fun _ _ _ _ _ h _=>by cases h
def z7e (g:Nat) (ans:List AV→z0B→Option AV) (base:z3h):z3h:=fun f args H k =>
 bif Nat.beq g f then (match ans args H with
  | some v=>k (.ret v) H
  | none=>false)
 else base f args H k
theorem z5L {base:z3h} (hb:z4e P base) {g:Nat} {ans:List AV→z0B→Option AV} (hg:hasBody P g=true) (h:∀ args H v,ans args H=some v→z0C P g args H (fun r H'=>r=.ret v∧H'=H)) :
  z4e P (z7e g ans base):=by
 intro f args H k Q hk hq
 unfold z7e at hk
 cases hc:Nat.beq g f with
 | true =>
  rw [hc] at hk
  have:=lA2 hc
  subst this
  simp only [cond_true] at hk
  split at hk
  ·rename_i v hv
   exact ⟨hg,(h _ _ _ hv).mono fun r H' ⟨e1,e2⟩=>by subst e1;subst e2;exact hq _ _ hk⟩
  ·cases hk
 | false=>rw [hc] at hk;exact hb _ _ _ _ _ hk hq
theorem z7F {f:FuncId} {args:List AV} {v:AV} (h:∀ (φ:Phi) (σ:Sig) (cargs:Array Value) (w:World),HRel φ σ H w→z8x φ σ args cargs→Calls P f cargs w fun e w'=>(∃ c,e=.returned c∧VRel φ σ v c)∧w'=w) :
  z0C P f args H (fun r H'=>r=.ret v∧H'=H):=by
 intro φ σ cargs w hr hc
 refine (h φ σ cargs w hr hc).mono ?_
 rintro e w' ⟨⟨c,rfl,hv⟩,rfl⟩
 exact ⟨φ,σ,.ret v,H,.refl hr,.refl _,⟨c,rfl,hv⟩,rfl,rfl⟩
end Go.Ab
