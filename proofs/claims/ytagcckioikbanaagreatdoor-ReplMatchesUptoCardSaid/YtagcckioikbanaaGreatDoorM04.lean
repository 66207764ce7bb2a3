/- Part 4 of the proof. -/
import Derived.Laws.StructEq
import Derived.Test.YtagcckioikbanaaGreatDoorM02
set_option linter.unusedVariables false
set_option linter.unusedSimpArgs false
namespace Go.Ab
variable {P:Program} {φ:Phi} {σ:Sig} {H:z0B} {w:World}
inductive ScK where
 | int | str | bool
def scK (P:Program) (t:TypeId):Option ScK :=
 match P.underlying t with
 | some .bool=>some .bool
 | some (.int _)=>some .int
 | some .string=>some .str
 | _=>none
def zPD:ScK→AV→AV→Option Bool
 | .int,.int k a,.int k' b=>if k=k' then some (a==b) else none
 | .str,.str a,.str b=>some (a==b)
 | .bool,.bool a,.bool b=>some (a==b)
 | _,_,_=>none
def z1F:List ScK→List AV→List AV→Option Bool
 | [],_,_=>some true
 | s::l,a::x,b::y=>match zPD s a b,z1F l x y with
  | some p,some q=>some (p&&q)
  | _,_=>none
 | _,_,_=>none
structure KT where
 g:Bool
 l:List ScK
def z5Y (k:KT) (x y:AV):Option Bool :=
 if k.g then match x,y with
  | .agg a,.agg b=>if a.length=k.l.length∧b.length=k.l.length then z1F k.l a b else none
  | _,_=>none
 else match k.l with
  | [s]=>zPD s x y
  | _=>none
def zGV (P:Program) (rec:TypeId→Option KT):List Field→Nat→Option (List ScK)
 | [],_=>some []
 | f::fs,off=>if f.name = "_" ∨ f.offset≠off then none else
  match rec f.type,z4k P f.type with
  | some k,some sh=>if sh=(if k.g then some k.l.length else none)∧(k.g=false→k.l.length=1)∧0<k.l.length then
    match zGV P rec fs (off+k.l.length) with
    | some l=>some (k.l++l)
    | none=>none
   else none
  | _,_=>none
def z4P (P:Program):Nat→TypeId→Option KT
 | 0,_=>none
 | d+1,t=>match scK P t with
  | some s=>some ⟨false,[s]⟩
  | none=>match P.underlying t with
   | some (.struct fs)=>if P.stoodInHeld t then none else match zGV P (z4P P d) fs.toList 0 with
    | some l=>some ⟨true,l⟩
    | none=>none
   | _=>none
theorem zPC {t:TypeId} {s:ScK} {x y:AV} {c d:Value} {b:Bool} (ht:scK P t=some s) (hx:VRel φ σ x c) (hy:VRel φ σ y d) (h:zPD s x y=some b) (D:Nat) :
  (Op.equalIn (D+1) t c d).run P w=.ok b w:=by
 unfold scK at ht
 unfold zPD at h
 split at h
 ·rename_i k a k' a'
  split at h
  ·rename_i e;subst e
   injection h with h;subst h
   split at ht<;>try (injection ht with ht;cases ht;done)
   ·rename_i q hq
    cases hx;cases hy
    exact run_equalIn_int w D t k q a a' hq
   ·cases ht
  ·cases h
 ·rename_i a a'
  injection h with h;subst h
  split at ht<;>try (injection ht with ht;cases ht;done)
  ·rename_i hq
   cases hx with
   | str _ s hs'=>cases hy with
    | str _ s' hs''=>rw [run_equalIn_string w D t s s' hq,z7X hs',z7X hs'']
  ·cases ht
 ·rename_i a a'
  injection h with h;subst h
  split at ht<;>try (injection ht with ht;cases ht;done)
  ·rename_i hq
   cases hx;cases hy
   exact run_equalIn_bool' w D t a a' hq
  ·cases ht
 ·cases h
theorem z6q:∀ {l m:List ScK} {x y:List AV} {b:Bool},z1F (l++m) x y=some b →
  ∃ p q,z1F l x y=some p∧z1F m (x.drop l.length) (y.drop l.length)=some q∧b=(p&&q)
 | [],m,x,y,b,h=>⟨true,b,by simp [z1F],by simpa using h,by simp⟩
 | s::l,m,x,y,b,h=>by
  cases x with
  | nil=>simp [z1F] at h
  | cons a x =>
   cases y with
   | nil=>simp [z1F] at h
   | cons c y =>
    simp only [lB5,z1F] at h
    split at h
    ·rename_i p q hp hq
     injection h with h;subst h
     obtain ⟨p',q',h1,h2,h3⟩:=z6q hq
     exact ⟨p&&p',q',by simp [z1F,hp,h1],by simpa using h2,by rw [h3,Bool.and_assoc]⟩
    ·cases h
theorem z9D:∀ {l:List ScK} {x y:List AV} {b:Bool},z1F l x y=some b→z1F l (x.take l.length) (y.take l.length)=some b∧l.length≤x.length∧l.length≤y.length
 | [],x,y,b,h=>by simp [z1F] at h ⊢;exact h
 | s::l,x,y,b,h=>by
  cases x with
  | nil=>simp [z1F] at h
  | cons a x =>
   cases y with
   | nil=>simp [z1F] at h
   | cons c y =>
    simp only [z1F] at h
    split at h
    ·rename_i p q hp hq
     injection h with h;subst h
     obtain ⟨h1,h2,h3⟩:=z9D hq
     refine ⟨?_,by simp;omega,by simp;omega⟩
     simp [z1F,hp,h1]
    ·cases h
theorem zPL {k:KT} {sh:Option Nat} (hc1:sh=if k.g then some k.l.length else none) (hc2:k.g=false→k.l.length=1) (hc3:0<k.l.length) {x y:List AV} {off:Nat} {p:Bool}
  (h1:z1F k.l (x.drop off) (y.drop off)=some p):∃ u v,z3L sh x off=some u∧z3L sh y off=some v∧z5Y k u v=some p:=by
 obtain ⟨t1,t2,t3⟩:=z9D h1
 simp only [lC3] at t2 t3
 obtain ⟨g,l⟩:=k
 cases g with
 | true =>
  simp only [if_true] at hc1 hc3 t2 t3 t1
  subst hc1
  refine ⟨_,_,by simp only [z3L];rw [if_pos (by omega)],by simp only [z3L];rw [if_pos (by omega)],?_⟩
  simp only [z5Y,if_true]
  rw [if_pos (by simp;omega)]
  exact t1
 | false =>
  have hl1:=hc2 rfl
  simp only at hl1 t2 t3 h1
  subst hc1
  match l,hl1 with
  | [s],_ =>
   simp only [lB7] at t2 t3
   have e1:x[off]? =some (x[off]'(by omega)):=lAG (by omega)
   have e2:y[off]? =some (y[off]'(by omega)):=lAG (by omega)
   refine ⟨_,_,by simp [z3L,e1];rfl,by simp [z3L,e2];rfl,?_⟩
   rw [lB3 (by omega),lB3 (i:=off) (l:=y) (by omega)] at h1
   simp only [z1F] at h1
   split at h1
   ·rename_i p' q' hp' hq'
    injection h1 with h1;injection hq' with hq';subst hq'
    simp only [Bool.and_true] at h1;subst h1
    simpa [z5Y] using hp'
   ·cases h1
def zXU (P:Program) (w:World) (m:Nat):Prop:=∀ t k,z4P P m t=some k→∀ φ σ D,m≤D→∀ x y c d b,VRel φ σ x c→VRel φ σ y d→z5Y k x y=some b→(Op.equalIn D t c d).run P w=.ok b w
theorem z9A {m:Nat} (ih:zXU P w m) {xs ys:Array Value} {x y:List AV} (hx:z8N φ σ x xs) (hy:z8N φ σ y ys) (D:Nat) (hD:m≤D):∀ (fs:List Field) (off:Nat) (l:List ScK) (b:Bool),
  zGV P (z4P P m) fs off=some l→z1F l (x.drop off) (y.drop off)=some b→(Op.eqFields D xs ys fs).run P w=.ok b w
 | [],off,l,b,hl,h=>by
  simp only [zGV] at hl;injection hl with hl;subst hl
  simp only [z1F] at h;injection h with h;subst h
  rfl
 | f::fs,off,l,b,hl,h=>by
  simp only [zGV] at hl
  split at hl
  ·cases hl
  ·rename_i hno
   simp only [not_or,ne_eq,Decidable.not_not] at hno
   obtain ⟨hname,hoff⟩:=hno
   split at hl
   ·rename_i k sh hk hsh
    by_cases hcond:sh=(if k.g=true then some k.l.length else none)∧(k.g=false→k.l.length=1)∧0<k.l.length
    ·rw [if_pos hcond] at hl
     obtain ⟨hc1,hc2,hc3⟩:=hcond
     split at hl
     ·rename_i l' hl'
      injection hl with hl;subst hl
      obtain ⟨p,q,h1,h2,h3⟩:=z6q h
      have ih2:=z9A ih hx hy D hD fs (off+k.l.length) l' q hl' (by rw [List.drop_drop,List.drop_drop] at h2;exact h2)
      obtain ⟨u,v,hu1,hv1,huv⟩:=zPL hc1 hc2 hc3 h1
      obtain ⟨c,c1,c2⟩:=z7p (P:=P) (w:=w) hsh hu1 hx.1 hx.2
      obtain ⟨d,d1,d2⟩:=z7p (P:=P) (w:=w) hsh hv1 hy.1 hy.2
      have he:=ih f.type k hk φ σ D hD u v c d p c2 d2 huv
      rw [←hoff] at c1 d1
      simp only [Op.eqFields,ne_eq,hname,not_false_eq_true,if_true,Sem.run_bind,c1,d1,Result.andThen_ok,he]
      subst h3
      cases p
      ·simp
      ·simp [ih2]
     ·cases hl
    ·rw [if_neg hcond] at hl;cases hl
   ·cases hl
theorem zXF:∀ m,zXU P w m
 | 0=>by intro t k h;simp [z4P] at h
 | m+1=>by
  intro t k hk φ σ D hD x y c d b hx hy h
  obtain ⟨D,rfl⟩:∃ D',D=D'+1:=⟨D-1,by omega⟩
  simp only [z4P] at hk
  split at hk
  ·rename_i s hs
   injection hk with hk;subst hk
   simp only [z5Y,lAV,if_false] at h
   exact zPC hs hx hy h D
  ·split at hk
   ·rename_i fs hu
    split at hk
    ·cases hk
    ·rename_i hst
     split at hk
     ·rename_i l hl
      injection hk with hk;subst hk
      simp only [z5Y,if_true] at h
      split at h
      ·rename_i a b'
       split at h
       ·rename_i hlen
        cases hx with
        | agg _ xs hl1 r1=>cases hy with
         | agg _ ys hl2 r2 =>
          have hfs:P.fieldsOf t=fs:=by simp [Program.fieldsOf,hu]
          rw [run_equalIn_struct w D t xs ys (by rw [hfs];exact hu) (by simpa using hst),hfs]
          exact z9A (zXF m) ⟨hl1,r1⟩ ⟨hl2,r2⟩ D (by omega) fs.toList 0 l b hl (by simpa using h)
       ·cases h
      ·cases h
     ·cases hk
   ·cases hk
end Go.Ab
