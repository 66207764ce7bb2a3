/- Part 16 of the proof. -/
import Derived.Test.YtgpnlpieipoogaaGreatDoorA13
import Derived.Test.YtgpnlpieipoogaaGreatDoorA15
set_option linter.unusedVariables false
set_option linter.unusedSimpArgs false
namespace Go.Ab
inductive FT where
 | leaf
 | node (l:FT) (f:Nat) (F:IFunc) (r:FT)
noncomputable def FT.get (t:FT) (f:Nat):Option IFunc :=
 FT.rec none (fun _ g F _ l r=>bif Nat.beq f g then some F else bif Nat.blt f g then l else r) t
def FT.ok (P:Program):FT→Prop
 | .leaf=>True
 | .node l f F r=>l.ok P∧(∃ anns,Is P f anns F)∧r.ok P
theorem FT.ok_get {P:Program}:∀ {t:FT},t.ok P→∀ f F,t.get f=some F→∃ anns,Is P f anns F
 | .leaf,_,f,F,h=>by cases h
 | .node l g G r,⟨h1,h2,h3⟩,f,F,h=>by
  have h:(bif Nat.beq f g then some G else bif Nat.blt f g then l.get f else r.get f)=some F:=h
  cases e:Nat.beq f g with
  | true=>rw [e] at h;injection h with h;subst h;rw [Nat.eq_of_beq_eq_true e];exact h2
  | false =>
   rw [e] at h
   cases e2:Nat.blt f g with
   | true=>rw [e2] at h;exact ok_get h1 f F h
   | false=>rw [e2] at h;exact ok_get h3 f F h
end Go.Ab
namespace Go.Ab
variable {P:Program} {H:Heap}
def sameH:Heap→Heap→Bool
 | [],[]=>true
 | a::x,b::y=>sameB a b&&sameH x y
 | _,_=>false
theorem sameH_eq:∀ {x y:Heap},sameH x y=true→x=y
 | [],[],_=>rfl
 | [],_::_,h=>by cases h
 | _::_,[],h=>by cases h
 | a::x,b::y,h=>by
  simp only [sameH,Bool.and_eq_true] at h
  rw [sameB_eq h.1,sameH_eq h.2]
structure OE where
 f:Nat
 args:List AV
 H:Heap
 r:ARes
 K:Heap
def OE.ok (P:Program) (e:OE):Prop:=hasBody P e.f=true∧ACall P e.f e.args e.H (fun r H=>r=e.r∧H=e.K)
def orcOf (es:List OE) (base:BCall):BCall:=fun f args H k =>
 match es with
 | []=>base f args H k
 | e::es=>bif Nat.beq e.f f&&(sameL sameV e.args args&&sameH e.H H) then k e.r e.K else orcOf es base f args H k
theorem orcOf_ok {base:BCall} (hb:CallOk P base):∀ {es:List OE},(∀ e∈es,e.ok P)→CallOk P (orcOf es base)
 | [],_=>hb
 | e::es,h=>by
  intro f args H k Q hk hq
  have hk:(bif Nat.beq e.f f&&(sameL sameV e.args args&&sameH e.H H) then k e.r e.K else orcOf es base f args H k)=true:=hk
  cases hc:(Nat.beq e.f f&&(sameL sameV e.args args&&sameH e.H H)) with
  | true =>
   rw [hc] at hk
   simp only [Bool.and_eq_true] at hc
   obtain ⟨h1,h2,h3⟩:=hc
   have h1:=Nat.eq_of_beq_eq_true h1
   have h2:=sameL_eq (fun x y q=>sameV_eq q) h2
   have h3:=sameH_eq h3
   subst h1;subst h2;subst h3
   obtain ⟨a,b⟩:=h e (by simp)
   exact ⟨a,b.mono fun r H' ⟨e1,e2⟩=>by subst e1;subst e2;exact hq _ _ hk⟩
  | false =>
   rw [hc] at hk
   exact orcOf_ok hb (fun x hx=>h x (by simp [hx])) f args H k Q hk hq
def orcNone:BCall:=fun _ _ _ _=>false
theorem orcNone_ok:CallOk P orcNone:=fun _ _ _ _ _ h _=>by cases h
def orcPure (g:Nat) (ans:List AV→Heap→Option AV) (base:BCall):BCall:=fun f args H k =>
 bif Nat.beq g f then (match ans args H with
  | some v=>k (.ret v) H
  | none=>false)
 else base f args H k
theorem orcPure_ok {base:BCall} (hb:CallOk P base) {g:Nat} {ans:List AV→Heap→Option AV} (hg:hasBody P g=true) (h:∀ args H v,ans args H=some v→ACall P g args H (fun r H'=>r=.ret v∧H'=H)) :
  CallOk P (orcPure g ans base):=by
 intro f args H k Q hk hq
 unfold orcPure at hk
 cases hc:Nat.beq g f with
 | true =>
  rw [hc] at hk
  have:=Nat.eq_of_beq_eq_true hc
  subst this
  simp only [cond_true] at hk
  split at hk
  ·rename_i v hv
   exact ⟨hg,(h _ _ _ hv).mono fun r H' ⟨e1,e2⟩=>by subst e1;subst e2;exact hq _ _ hk⟩
  ·cases hk
 | false=>rw [hc] at hk;exact hb _ _ _ _ _ hk hq
theorem acall_same {f:FuncId} {args:List AV} {v:AV} (h:∀ (φ:Phi) (σ:Sig) (cargs:Array Value) (w:World),HRel φ σ H w→CRel φ σ args cargs→Calls P f cargs w fun e w'=>(∃ c,e=.returned c∧VRel φ σ v c)∧w'=w) :
  ACall P f args H (fun r H'=>r=.ret v∧H'=H):=by
 intro φ σ cargs w hr hc
 refine (h φ σ cargs w hr hc).mono ?_
 rintro e w' ⟨⟨c,rfl,hv⟩,rfl⟩
 exact ⟨φ,σ,.ret v,H,.refl hr,.refl _,⟨c,rfl,hv⟩,rfl,rfl⟩
end Go.Ab
