/- Part 16 of the proof. -/
import Derived.Test.YtagcckioikbanaaGreatDoorM13
import Derived.Test.YtagcckioikbanaaGreatDoorM15
set_option linter.unusedVariables false
set_option linter.unusedSimpArgs false
namespace Go.Ab
inductive FT where
 | leaf
 | node (l:FT) (f:Nat) (F:IFunc) (r:FT)
noncomputable def FT.get (t:FT) (f:Nat):Option IFunc :=
 FT.rec none (fun _ g F _ l r=>bif Nat.beq f g then some F else bif Nat.blt f g then l else r) t
def FT.ok (P:Program):FT→Prop
 | .leaf=>True
 | .node l f F r=>l.ok P∧(∃ anns,Is P f anns F)∧r.ok P
theorem FT.ok_get {P:Program}:∀ {t:FT},t.ok P→∀ f F,t.get f=some F→∃ anns,Is P f anns F
 | .leaf,_,f,F,h=>by cases h
 | .node l g G r,⟨h1,h2,h3⟩,f,F,h=>by
  have h:(bif Nat.beq f g then some G else bif Nat.blt f g then l.get f else r.get f)=some F:=h
  cases e:Nat.beq f g with
  | true=>rw [e] at h;injection h with h;subst h;rw [lAY e];exact h2
  | false =>
   rw [e] at h
   cases e2:Nat.blt f g with
   | true=>rw [e2] at h;exact ok_get h1 f F h
   | false=>rw [e2] at h;exact ok_get h3 f F h
end Go.Ab
namespace Go.Ab
variable {P:Program} {H:z0B}
def zJc:z0B→z0B→Bool
 | [],[]=>true
 | a::x,b::y=>zJd a b&&zJc x y
 | _,_=>false
theorem zHR:∀ {x y:z0B},zJc x y=true→x=y
 | [],[],_=>rfl
 | [],_::_,h=>by cases h
 | _::_,[],h=>by cases h
 | a::x,b::y,h=>by
  simp only [zJc,lAQ] at h
  rw [zHT h.1,zHR h.2]
structure OE where
 f:Nat
 args:List AV
 H:z0B
 r:ARes
 K:z0B
def OE.ok (P:Program) (e:OE):Prop:=hasBody P e.f=true∧z0D P e.f e.args e.H (fun r H=>r=e.r∧H=e.K)
def zPN (es:List OE) (base:z3M):z3M:=fun f args H k =>
 match es with
 | []=>base f args H k
 | e::es=>bif Nat.beq e.f f&&(z8Z zAL e.args args&&zJc e.H H) then k e.r e.K else zPN es base f args H k
theorem zHa {base:z3M} (hb:z4G P base):∀ {es:List OE},(∀ e∈es,e.ok P)→z4G P (zPN es base)
 | [],_=>hb
 | e::es,h=>by
  intro f args H k Q hk hq
  have hk:(bif Nat.beq e.f f&&(z8Z zAL e.args args&&zJc e.H H) then k e.r e.K else zPN es base f args H k)=true:=hk
  cases hc:(Nat.beq e.f f&&(z8Z zAL e.args args&&zJc e.H H)) with
  | true =>
   rw [hc] at hk
   simp only [lAQ] at hc
   obtain ⟨h1,h2,h3⟩:=hc
   have h1:=lAY h1
   have h2:=z3W (fun x y q=>z4B q) h2
   have h3:=zHR h3
   subst h1;subst h2;subst h3
   obtain ⟨a,b⟩:=h e (by simp)
   exact ⟨a,b.mono fun r H' ⟨e1,e2⟩=>by subst e1;subst e2;exact hq _ _ hk⟩
  | false =>
   rw [hc] at hk
   exact zHa hb (fun x hx=>h x (by simp [hx])) f args H k Q hk hq
def zLk:z3M:=fun _ _ _ _=>false
theorem zJn:z4G P zLk:=fun _ _ _ _ _ h _=>by cases h
def z7C (g:Nat) (ans:List AV→z0B→Option AV) (base:z3M):z3M:=fun f args H k =>
 bif Nat.beq g f then (match ans args H with
  | some v=>k (.ret v) H
  | none=>false)
 else base f args H k
theorem z4q {base:z3M} (hb:z4G P base) {g:Nat} {ans:List AV→z0B→Option AV} (hg:hasBody P g=true) (h:∀ args H v,ans args H=some v→z0D P g args H (fun r H'=>r=.ret v∧H'=H)) :
  z4G P (z7C g ans base):=by
 intro f args H k Q hk hq
 unfold z7C at hk
 cases hc:Nat.beq g f with
 | true =>
  rw [hc] at hk
  have:=lAY hc
  subst this
  simp only [cond_true] at hk
  split at hk
  ·rename_i v hv
   exact ⟨hg,(h _ _ _ hv).mono fun r H' ⟨e1,e2⟩=>by subst e1;subst e2;exact hq _ _ hk⟩
  ·cases hk
 | false=>rw [hc] at hk;exact hb _ _ _ _ _ hk hq
theorem z5A {f:FuncId} {args:List AV} {v:AV} (h:∀ (φ:Phi) (σ:Sig) (cargs:Array Value) (w:World),HRel φ σ H w→z8N φ σ args cargs→Calls P f cargs w fun e w'=>(∃ c,e=.returned c∧VRel φ σ v c)∧w'=w) :
  z0D P f args H (fun r H'=>r=.ret v∧H'=H):=by
 intro φ σ cargs w hr hc
 refine (h φ σ cargs w hr hc).mono ?_
 rintro e w' ⟨⟨c,rfl,hv⟩,rfl⟩
 exact ⟨φ,σ,.ret v,H,.refl hr,.refl _,⟨c,rfl,hv⟩,rfl,rfl⟩
end Go.Ab
