/- Part 44 of the proof. -/
import Derived.Test.YtgpnlpieipoogaaGreatDoorA36
import Derived.Test.YtgpnlpieipoogaaGreatDoorA42
import Derived.Test.YtgpnlpieipoogaaGreatDoorA43
set_option linter.unusedVariables false
set_option linter.unusedSimpArgs false
namespace Go.Ab
open Go
theorem ang_index {w r:Bt} (h:∀ x∈w,x≠62∧x≠32):Lib.indexByte (60::(w++62::r)) 62=(w.length+1:Nat):=by
 refine index_first ?_ ?_
 ·rw [List.getElem?_cons_succ,List.getElem?_append_right (Nat.le_refl _),Nat.sub_self];rfl
 ·intro k hk
  cases k with
  | zero=>simp
  | succ k =>
   rw [List.getElem?_cons_succ,List.getElem?_append_left (by omega),List.getElem?_eq_getElem (by omega)]
   intro e
   injection e with e
   exact (h _ (List.getElem_mem _)).1 e
theorem ang_toGt {w r:Bt} (h:∀ x∈w,x≠62∧x≠32):toGt (60::(w++62::r))=w.length+1:=by
 have e:∀ w:Bt,(∀ x∈w,x≠62∧x≠32)→toGt (w++62::r)=w.length:=by
  intro w
  induction w with
  | nil=>intro _;simp [toGt]
  | cons c w ih =>
   intro h
   have hc:=(h c (by simp)).1
   have:=ih fun x hx=>h x (by simp [hx])
   unfold toGt at this ⊢
   rw [List.cons_append,List.takeWhile_cons,if_pos (by simpa using hc),List.length_cons,this];rfl
 have:=e w h
 unfold toGt at this ⊢
 rw [List.takeWhile_cons,if_pos (by decide),List.length_cons,this]
theorem ang_skip {w r:Bt} (h:∀ x∈w,x≠62∧x≠32):skipGt (60::(w++62::r))=w.length+1:=by
 have e:∀ w:Bt,(∀ x∈w,x≠62∧x≠32)→skipGt (w++62::r)=w.length:=by
  intro w
  induction w with
  | nil=>intro _;cases r<;>rfl
  | cons c w ih =>
   intro h
   have hc:=(h c (by simp)).1
   have i:=ih fun x hx=>h x (by simp [hx])
   cases hw:w++62::r with
   | nil=>exact absurd hw (by simp)
   | cons a t =>
    rw [List.cons_append,hw]
    rw [hw] at i
    unfold skipGt
    rw [if_neg (by simpa using hc),i];rfl
 have e:=e w h
 cases hw:w++62::r with
 | nil=>exact absurd hw (by simp)
 | cons a t =>
  rw [hw] at e
  unfold skipGt
  rw [if_neg (by decide),e]
theorem ang_drop {w r:Bt}:(60::(w++62::r)).drop (w.length+1+1)=r:=by
 have:(60::(w++62::r))=(60::(w++[62]))++r:=by simp
 rw [this,List.drop_append_of_le_length (by simp),List.drop_of_length_le (by simp)];rfl
theorem bareP_item {t r:Bt} {n:Nat} {d:Int} (h:Itm t) (hn:(t++r).length<n):∃ m,r.length<m∧bareP n d (t++r)=bareP m d r:=by
 cases n with
 | zero=>omega
 | succ n =>
 cases h with
 | one c h1 h2 h3 h4 h5 h6 h7 =>
  refine ⟨n,by simp at hn;omega,?_⟩
  simp [bareP,h1,h2,h3,h4,h5]
 | esc c h=>exact ⟨n,by simp at hn;omega,by simp [bareP]⟩
 | ang w h =>
  refine ⟨n,by simp at hn;omega,?_⟩
  have e:60::(w++[62])++r=60::(w++62::r):=by simp
  rw [e]
  simp only [bareP]
  rw [if_neg (by decide),if_pos (by decide),ang_index h,Int.toNat_natCast,ang_drop]
 | none =>
  cases n with
  | zero=>simp at hn
  | succ n=>exact ⟨n,by simp at hn;omega,by simp [bareP]⟩
theorem bareF_item {t r:Bt} {n:Nat} {d:Int} (h:Itm t) (hn:(t++r).length<n):∃ m,r.length<m∧bareF n d (t++r)=bareF m d r:=by
 cases n with
 | zero=>omega
 | succ n =>
 cases h with
 | one c h1 h2 h3 h4 h5 h6 h7 =>
  refine ⟨n,by simp at hn;omega,?_⟩
  simp [bareF,h1,h2,h3,h4,h5]
 | esc c h=>exact ⟨n,by simp at hn;omega,by simp [bareF]⟩
 | ang w h =>
  refine ⟨n,by simp at hn;omega,?_⟩
  have e:60::(w++[62])++r=60::(w++62::r):=by simp
  rw [e]
  simp only [bareF]
  rw [if_neg (by decide),if_pos (by decide),ang_toGt h,ang_drop]
 | none =>
  cases n with
  | zero=>simp at hn
  | succ n=>exact ⟨n,by simp at hn;omega,by simp [bareF]⟩
theorem fuel_pos {n k:Nat} (h:k<n):∃ m,n=m+1∧k≤m:=⟨n-1,by omega,by omega⟩
theorem bareP_lin {a b:Nat} {ts:List Bt} (h:Lin a ts b):∀ {r:Bt} {n:Nat},(ts.flatten++r).length<n→∃ m,r.length<m∧bareP n a (ts.flatten++r)=bareP m b r:=by
 induction h with
 | nil d=>intro r n hn;exact ⟨n,by simpa using hn,rfl⟩
 | @item d e t ts hi _ ih =>
  intro r n hn
  rw [List.flatten_cons,List.append_assoc] at hn ⊢
  obtain ⟨m,h1,h2⟩:=bareP_item (d:=d) hi hn
  obtain ⟨m2,h3,h4⟩:=ih h1
  exact ⟨m2,h3,by rw [h2,h4]⟩
 | @free d e t ts hi _ ih =>
  intro r n hn
  rw [List.flatten_cons,List.append_assoc] at hn ⊢
  obtain ⟨n,rfl,hn⟩:=fuel_pos hn
  have hd:(((d+1:Nat):Int)==0)=false:=by rw [beq_eq_false_iff_ne];omega
  rcases hi with rfl | rfl
  ·obtain ⟨m2,h3,h4⟩:=ih (r:=r) (n:=n) (by simp at hn ⊢;omega)
   exact ⟨m2,h3,by rw [←h4];simp [bareP]⟩
  ·cases n with
   | zero=>simp at hn
   | succ n =>
    obtain ⟨m2,h3,h4⟩:=ih (r:=r) (n:=n) (by simp at hn ⊢;omega)
    refine ⟨m2,h3,?_⟩
    rw [←h4]
    simp only [List.cons_append,List.nil_append,bareP,hd]
    simp
 | @opn d e ts hi _ ih =>
  intro r n hn
  rw [List.flatten_cons,List.append_assoc] at hn ⊢
  obtain ⟨n,rfl,hn⟩:=fuel_pos hn
  obtain ⟨m2,h3,h4⟩:=ih (r:=r) (n:=n) (by simp at hn ⊢;omega)
  refine ⟨m2,h3,?_⟩
  rw [←h4]
  simp [bareP]
 | @cls d e ts _ ih =>
  intro r n hn
  rw [List.flatten_cons,List.append_assoc] at hn ⊢
  obtain ⟨n,rfl,hn⟩:=fuel_pos hn
  obtain ⟨m2,h3,h4⟩:=ih (r:=r) (n:=n) (by simp at hn ⊢;omega)
  refine ⟨m2,h3,?_⟩
  rw [←h4]
  have:((d+1:Nat):Int)-1=d:=by omega
  simp only [List.cons_append,List.nil_append,bareP,this]
  simp
theorem bareF_lin {a b:Nat} {ts:List Bt} (h:Lin a ts b):∀ {r:Bt} {n:Nat},(ts.flatten++r).length<n→∃ m,r.length<m∧bareF n a (ts.flatten++r)=bareF m b r:=by
 induction h with
 | nil d=>intro r n hn;exact ⟨n,by simpa using hn,rfl⟩
 | @item d e t ts hi _ ih =>
  intro r n hn
  rw [List.flatten_cons,List.append_assoc] at hn ⊢
  obtain ⟨m,h1,h2⟩:=bareF_item (d:=d) hi hn
  obtain ⟨m2,h3,h4⟩:=ih h1
  exact ⟨m2,h3,by rw [h2,h4]⟩
 | @free d e t ts hi _ ih =>
  intro r n hn
  rw [List.flatten_cons,List.append_assoc] at hn ⊢
  obtain ⟨n,rfl,hn⟩:=fuel_pos hn
  have hd:(((d+1:Nat):Int)==0)=false:=by rw [beq_eq_false_iff_ne];omega
  rcases hi with rfl | rfl
  ·obtain ⟨m2,h3,h4⟩:=ih (r:=r) (n:=n) (by simp at hn ⊢;omega)
   exact ⟨m2,h3,by rw [←h4];simp [bareF]⟩
  ·cases n with
   | zero=>simp at hn
   | succ n =>
    obtain ⟨m2,h3,h4⟩:=ih (r:=r) (n:=n) (by simp at hn ⊢;omega)
    refine ⟨m2,h3,?_⟩
    rw [←h4]
    simp only [List.cons_append,List.nil_append,bareF,hd]
    simp
 | @opn d e ts hi _ ih =>
  intro r n hn
  rw [List.flatten_cons,List.append_assoc] at hn ⊢
  obtain ⟨n,rfl,hn⟩:=fuel_pos hn
  obtain ⟨m2,h3,h4⟩:=ih (r:=r) (n:=n) (by simp at hn ⊢;omega)
  refine ⟨m2,h3,?_⟩
  rw [←h4]
  simp [bareF]
 | @cls d e ts _ ih =>
  intro r n hn
  rw [List.flatten_cons,List.append_assoc] at hn ⊢
  obtain ⟨n,rfl,hn⟩:=fuel_pos hn
  obtain ⟨m2,h3,h4⟩:=ih (r:=r) (n:=n) (by simp at hn ⊢;omega)
  refine ⟨m2,h3,?_⟩
  rw [←h4]
  have:((d+1:Nat):Int)-1=d:=by omega
  simp only [List.cons_append,List.nil_append,bareF,this]
  simp
theorem bare_A {u:Bt} {ts:List Bt} (hu:u=ts.flatten) (h:LinA ts):bareP (u.length+1) 0 u=false∧bareR u=false:=by
 subst hu
 obtain ⟨m,_,h2⟩:=bareP_lin (h 0) (r:=[]) (n:=ts.flatten.length+1) (by simp)
 obtain ⟨m',_,h3⟩:=bareF_lin (h 0) (r:=[]) (n:=ts.flatten.length+1) (by simp)
 rw [List.append_nil] at h2 h3
 unfold bareR
 have e:((0:Nat):Int)=0:=rfl
 rw [e] at h2 h3
 rw [h2,h3,bareP_nil,bareF_nil]
 exact ⟨rfl,rfl⟩
theorem bare_O {u:Bt} {a b:List Bt} (hu:u=(a++[61,62]::b).flatten) (h:LinA a):bareP (u.length+1) 0 u=true∧bareR u=true:=by
 have hu:u=a.flatten++(61::62::b.flatten):=by rw [hu];simp
 rw [hu]
 obtain ⟨m,k1,h2⟩:=bareP_lin (h 0) (r:=61::62::b.flatten) (n:=(a.flatten++(61::62::b.flatten)).length+1) (by omega)
 obtain ⟨m',k2,h3⟩:=bareF_lin (h 0) (r:=61::62::b.flatten) (n:=(a.flatten++(61::62::b.flatten)).length+1) (by omega)
 unfold bareR
 have e:((0:Nat):Int)=0:=rfl
 rw [e] at h2 h3
 rw [h2,h3]
 cases m with
 | zero=>simp at k1
 | succ m =>
  cases m' with
  | zero=>simp at k2
  | succ m'=>exact ⟨by simp [bareP],by simp [bareF]⟩
theorem z3X {n:Nat} {g:UInt8} {s:Bt} {b:Nat} {d:Int} {i:Nat} {c:UInt8} {t:Bt} (h:s.drop i=c::t) (h1:c≠92) (h2:c≠60) (h3:c≠91) (h4:c≠93) (h5:c≠g∨d≠0) :
  cutF (n+1) g s b d i=cutF n g s b d (i+1):=by
 simp only [cutF,h]
 rw [if_neg (by simpa using h1),if_neg (by simpa using h2),if_neg (by simpa using h3),if_neg (by simpa using h4),if_neg]
 rcases h5 with h5 | h5
 ·simp [h5]
 ·simp [h5]
theorem cutF_item {t r s:Bt} {n i b:Nat} {d:Int} {g:UInt8} (hg:g=59∨g=95) (h:Itm t) (hs:s.drop i=t++r) (hn:(t++r).length<n):∃ m,r.length<m∧cutF n g s b d i=cutF m g s b d (i+t.length):=by
 cases n with
 | zero=>omega
 | succ n =>
 cases h with
 | one c h1 h2 h3 h4 h5 h6 h7 =>
  refine ⟨n,by simp at hn;omega,z3X hs h1 h2 h3 h4 (.inl ?_)⟩
  rcases hg with rfl | rfl
  ·exact h7
  ·exact h6
 | esc c h=>exact ⟨n,by simp at hn;omega,by simp [cutF,hs]⟩
 | ang w h =>
  refine ⟨n,by simp at hn;omega,?_⟩
  have e:60::(w++[62])++r=60::(w++62::r):=by simp
  rw [e] at hs
  simp only [cutF,hs]
  rw [if_neg (by decide),if_pos (by decide),ang_skip h]
  congr 1
  simp;omega
 | none =>
  cases n with
  | zero=>simp at hn
  | succ n =>
   refine ⟨n,by simp at hn;omega,?_⟩
   have h2:s.drop (i+1)=93::r:=by rw [←List.drop_drop,hs];rfl
   simp [cutF,hs,h2]
theorem cutF_lin {g:UInt8} {s:Bt} {b:Nat} (hg:g=59∨g=95) {d e:Nat} {ts:List Bt} (h:Lin d ts e):∀ {r:Bt} {n i:Nat},s.drop i=ts.flatten++r→(ts.flatten++r).length<n→∃ m,r.length<m∧cutF n g s b d i=cutF m g s b e (i+ts.flatten.length):=by
 induction h with
 | nil d=>intro r n i hs hn;exact ⟨n,by simpa using hn,by simp⟩
 | @item d e t ts hi _ ih =>
  intro r n i hs hn
  rw [List.flatten_cons,List.append_assoc] at hs hn
  obtain ⟨m,h1,h2⟩:=cutF_item (d:=d) (b:=b) hg hi hs hn
  obtain ⟨m2,h3,h4⟩:=ih (r:=r) (n:=m) (i:=i+t.length) (by rw [←List.drop_drop,hs];simp) h1
  exact ⟨m2,h3,by rw [h2,h4,List.flatten_cons,List.length_append,Nat.add_assoc]⟩
 | @free d e t ts hi _ ih =>
  intro r n i hs hn
  rw [List.flatten_cons,List.append_assoc] at hs hn
  have hd:((d+1:Nat):Int)≠0:=by omega
  obtain ⟨n,rfl,hn⟩:=fuel_pos hn
  rcases hi with rfl | rfl
  ·obtain ⟨m2,h3,h4⟩:=ih (r:=r) (n:=n) (i:=i+1) (by rw [←List.drop_drop,hs];simp) (by simp at hn ⊢;omega)
   refine ⟨m2,h3,?_⟩
   rw [z3X hs (by decide) (by decide) (by decide) (by decide) (.inr hd),h4,List.flatten_cons,List.length_append,Nat.add_assoc];rfl
  ·cases n with
   | zero=>simp at hn
   | succ n =>
    obtain ⟨m2,h3,h4⟩:=ih (r:=r) (n:=n) (i:=i+2) (by rw [←List.drop_drop,hs];simp) (by simp at hn ⊢;omega)
    have hs2:s.drop (i+1)=62::(ts.flatten++r):=by rw [←List.drop_drop,hs];simp
    refine ⟨m2,h3,?_⟩
    rw [z3X hs (by decide) (by decide) (by decide) (by decide) (.inr hd),z3X hs2 (by decide) (by decide) (by decide) (by decide) (.inr hd),h4,List.flatten_cons,List.length_append,Nat.add_assoc];rfl
 | @opn d e ts hi _ ih =>
  intro r n i hs hn
  rw [List.flatten_cons,List.append_assoc] at hs hn
  obtain ⟨n,rfl,hn⟩:=fuel_pos hn
  obtain ⟨m2,h3,h4⟩:=ih (r:=r) (n:=n) (i:=i+1) (by rw [←List.drop_drop,hs];simp) (by simp at hn ⊢;omega)
  refine ⟨m2,h3,?_⟩
  rw [List.flatten_cons,List.length_append,←Nat.add_assoc]
  refine Eq.trans ?_ h4
  have hs:s.drop i=91::(ts.flatten++r):=hs
  simp only [cutF,hs]
  rfl
 | @cls d e ts _ ih =>
  intro r n i hs hn
  rw [List.flatten_cons,List.append_assoc] at hs hn
  obtain ⟨n,rfl,hn⟩:=fuel_pos hn
  obtain ⟨m2,h3,h4⟩:=ih (r:=r) (n:=n) (i:=i+1) (by rw [←List.drop_drop,hs];simp) (by simp at hn ⊢;omega)
  refine ⟨m2,h3,?_⟩
  rw [List.flatten_cons,List.length_append,←Nat.add_assoc]
  refine Eq.trans ?_ h4
  have hs:s.drop i=93::(ts.flatten++r):=hs
  have:((d+1:Nat):Int)-1=d:=by omega
  simp only [cutF,hs,this]
  rfl
abbrev Sd:=Option Bt
def tL:Sd→Bt
 | none=>[]
 | some u=>u++[32]
def tR:Sd→Bt
 | none=>[]
 | some u=>32::u
def plcT (p:Sd × Sd):Bt:=tL p.1++95::tR p.2
def plsT (l:List (Sd × Sd)):Bt:=Lib.join (l.map plcT) [32,59,32]
def Gd (u:Bt):Prop:=(exP u).2≠2∧triL (triR u)=u∧bareP (u.length+1) 0 u=false
def gdS:Sd→Prop
 | none=>True
 | some u=>Gd u
abbrev gdP (p:Sd × Sd):Prop:=gdS p.1∧gdS p.2
theorem tok_nil {r:Bt} (h:tok r=some []):r=[]:=by
 cases r with
 | nil=>rfl
 | cons c t =>
  unfold tok at h
  simp only at h
  split at h
  ·injection h with h;simp at h
  ·split at h
   ·injection h with h;simp at h
   ·split at h
    ·injection h with h;simp at h
    ·split at h
     ·injection h with h;simp at h
     ·cases h
theorem exP_len {u:Bt} (hl:u.length≤6000) (h:(exP u).2≠2):∃ e q,peA .only u 0=.ok (e,q)∧∃ k,tkn u q=.ok ([],k)∧((exP u)=if vexpr e != 0 then (Z0,vexpr e) else (e,0)):=by
 have hd:decide ((u.length:Int)>6000)=false:=by rw [decide_eq_false_iff_not];omega
 unfold exP at h ⊢
 rw [hd] at h ⊢
 simp only [Bool.false_eq_true,if_false] at h ⊢
 split at h
 ·rename_i e q he
  refine ⟨e,q,he,?_⟩
  split at h
  ·rename_i t k ht
   split at h
   ·rename_i hte
    have:t=[]:=by simpa using hte
    subst this
    rename_i ht _
    exact ⟨k,ht,by simp⟩
   ·exact absurd rfl h
  ·exact absurd rfl h
 ·exact absurd rfl h
theorem pe_all {u:Bt} {e:Ex} {q:Nat} {k:Nat} (h:peA .only u 0=.ok (e,q)) (ht:tkn u q=.ok ([],k)):∃ ts,u=ts.flatten∧(LinA ts∨∃ a b,ts=a++[61,62]::b∧LinA a):=by
 have h1:=pe_ok _ _ _ _ _ rfl h (Nat.zero_le _)
 obtain ⟨ts,h2,h3⟩:=(pe_lin _ _ _ _ _ rfl h (Nat.zero_le _)).2 rfl
 obtain ⟨⟨t2,h4,h5⟩,_,_,h6⟩:=z4A ht h1.2.1
 have h7:=tok_nil h6
 have h8:=h2.app h4
 unfold Seg at h8
 rw [h7,List.append_nil,List.drop_zero] at h8
 refine ⟨_,h8,?_⟩
 rcases h3.2 with h | ⟨a,b,rfl,h⟩
 ·exact .inl (h.app h5)
 ·exact .inr ⟨a,b++t2,by simp,h⟩
theorem Gd.items {u:Bt} (hl:u.length≤6000) (h:Gd u):∃ ts,u=ts.flatten∧LinA ts:=by
 obtain ⟨e,q,h1,k,h2,_⟩:=exP_len hl h.1
 obtain ⟨ts,h3,h4⟩:=pe_all h1 h2
 rcases h4 with h4 | ⟨a,b,rfl,h4⟩
 ·exact ⟨ts,h3,h4⟩
 ·have:=(bare_O h3 h4).1
  rw [h.2.2] at this;cases this
theorem triL_len (s:Bt):(triL s).length≤s.length:=by
 induction s with
 | nil=>simp [triL]
 | cons c t ih=>unfold triL;split<;>simp;omega
theorem snoc_of {s:Bt} (h:s≠[]):∃ t c,s=t++[c]:=⟨s.dropLast,s.getLast h,(List.dropLast_concat_getLast h).symm⟩
theorem tri_iff {u:Bt} (h:u≠[]):triL (triR u)=u↔u.head?≠some 32∧u.getLast?≠some 32:=by
 obtain ⟨t,c,rfl⟩:=snoc_of h
 rw [triR_app]
 constructor
 ·intro e
  have e1:=triL_len (if c==32 then triR t else t++[c])
  rw [e] at e1
  by_cases hc:c=32
  ·subst hc
   have:=triR_len t
   simp at e1;omega
  ·rw [if_neg (by simpa using hc)] at e
   refine ⟨?_,by simpa using hc⟩
   intro hh
   cases hx:t++[c] with
   | nil=>simp at hx
   | cons a r =>
    rw [hx] at hh e
    have:a=32:=by simpa using hh
    subst this
    have:=triL_len r
    rw [triL,if_pos (by decide)] at e
    have:=congrArg List.length e
    simp at this;omega
 ·rintro ⟨h1,h2⟩
  have hc:c≠32:=by simpa using h2
  rw [if_neg (by simpa using hc)]
  cases hx:t++[c] with
  | nil=>simp at hx
  | cons a r =>
   rw [hx] at h1
   have:a≠32:=by simpa using h1
   rw [triL,if_neg (by simpa using this)]
theorem i32:Itm [32]:=i1 (by decide)
theorem tL_lin {a:Sd} (hl:(tL a).length≤6000) (h:gdS a):∃ ts,tL a=ts.flatten∧LinA ts:=by
 cases a with
 | none=>exact ⟨[],rfl,.nil⟩
 | some u =>
  obtain ⟨ts,h1,h2⟩:=Gd.items (u:=u) (by simp [tL] at hl;omega) h
  exact ⟨ts++[[32]],by simp [tL,h1],h2.app (.one i32)⟩
theorem tR_lin {a:Sd} (hl:(tR a).length≤6000) (h:gdS a):∃ ts,tR a=ts.flatten∧LinA ts:=by
 cases a with
 | none=>exact ⟨[],rfl,.nil⟩
 | some u =>
  obtain ⟨ts,h1,h2⟩:=Gd.items (u:=u) (by simp [tR] at hl;omega) h
  exact ⟨[32]::ts,by simp [tR,h1],.item i32 h2⟩
theorem tL_end (a:Sd):tL a=[]∨(tL a).getLast? =some 32:=by
 cases a with
 | none=>exact .inl rfl
 | some u=>exact .inr (by simp [tL])
theorem tR_begin (a:Sd):tR a=[]∨(tR a).head? =some 32:=by
 cases a with
 | none=>exact .inl rfl
 | some u=>exact .inr (by simp [tR])
theorem cut_here {n b:Nat} {g:UInt8} {s x y:Bt} (hg:g=59∨g=95) (hs:s=x++g::y) (hx:x=[]∨x.getLast? =some 32) (hy:y=[]∨y.head? =some 32) :
  cutF (n+1) g s b 0 x.length=x.drop b::cutF n g s (x.length+1) 0 (x.length+1):=by
 have hd:s.drop x.length=g::y:=by rw [hs];simp
 have h1:(x.length==0||s.getD (x.length-1) 0==32)=true:=by
  rcases hx with rfl | hx
  ·rfl
  ·have hne:x≠[]:=by rintro rfl;simp at hx
   obtain ⟨t,c,rfl⟩:=snoc_of hne
   have:c=32:=by simpa using hx
   subst this
   rw [hs];simp
 have h2:(x.length+1==s.length||s.getD (x.length+1) 0==32)=true:=by
  rcases hy with rfl | hy
  ·rw [hs];simp
  ·cases y with
   | nil=>simp at hy
   | cons c y =>
    have:c=32:=by simpa using hy
    subst this
    rw [hs];simp
 have ht:s.take x.length=x:=by rw [hs];simp
 simp only [cutF,hd]
 have n1:(g==92)=false:=by rcases hg with rfl | rfl<;>rfl
 have n2:(g==60)=false:=by rcases hg with rfl | rfl<;>rfl
 have n3:(g==91)=false:=by rcases hg with rfl | rfl<;>rfl
 have n4:(g==93)=false:=by rcases hg with rfl | rfl<;>rfl
 rw [n1,n2,n3,n4,h1,h2,ht]
 simp
theorem cut_end {n b i:Nat} {g:UInt8} {s:Bt} {ts:List Bt} (hg:g=59∨g=95) (hs:s.drop i=ts.flatten) (h:LinA ts) (hn:ts.flatten.length<n):cutF n g s b 0 i=[s.drop b]:=by
 obtain ⟨m,h1,h2⟩:=cutF_lin (s:=s) (b:=b) hg (h 0) (r:=[]) (n:=n) (i:=i) (by rw [hs];simp) (by simpa using hn)
 have e:((0:Nat):Int)=0:=rfl
 rw [e] at h2
 rw [h2]
 cases m with
 | zero=>simp at h1
 | succ m =>
  have:s.drop (i+ts.flatten.length)=[]:=by rw [←List.drop_drop,hs];simp
  simp only [cutF,this]
theorem plcT_len (p:Sd × Sd):(plcT p).length=(tL p.1).length+1+(tR p.2).length:=by simp [plcT];omega
theorem cutS_pl {p:Sd × Sd} (h:gdP p) (hl:(plcT p).length≤6000):cutS (plcT p) 95=[tL p.1,tR p.2]:=by
 have hlen:=plcT_len p
 obtain ⟨ta,a1,a2⟩:=tL_lin (a:=p.1) (by omega) h.1
 obtain ⟨tb,b1,b2⟩:=tR_lin (a:=p.2) (by omega) h.2
 unfold cutS
 have hs:plcT p=ta.flatten++(95::tR p.2):=by rw [←a1];rfl
 obtain ⟨m,h1,h2⟩:=cutF_lin (s:=plcT p) (b:=0) (g:=95) (.inr rfl) (a2 0) (r:=95::tR p.2) (n:=(plcT p).length+1) (i:=0) (by rw [List.drop_zero,hs]) (by rw [←hs];omega)
 have e:((0:Nat):Int)=0:=rfl
 rw [e] at h2
 rw [h2,Nat.zero_add,←a1]
 cases m with
 | zero=>simp at h1
 | succ m =>
  rw [cut_here (.inr rfl) (s:=plcT p) (x:=tL p.1) (y:=tR p.2) rfl (tL_end _) (tR_begin _),List.drop_zero]
  have hd:(plcT p).drop ((tL p.1).length+1)=tR p.2:=by
   rw [←List.drop_drop];simp [plcT]
  rw [cut_end (.inr rfl) (by rw [hd,b1]) b2 (by rw [←b1];simp at h1;omega),hd]
def sdE:Sd→Ex × Bool
 | none=>(lf 2,false)
 | some u=>if (exP u).2 != 0 then (tgr 12,true) else ((exP u).1,false)
def mP (p:Sd × Sd):Pl:=((sdE p.1).1,(sdE p.2).1)
def gP (p:Sd × Sd):Bool:=(sdE p.1).2||(sdE p.2).2
theorem sideP_L {u:Bt} (h:Gd u):sideP 0 (u++[32])=some (sdE (some u)):=by
 unfold sideP sdE
 simp only [beq_self_eq_true,if_true]
 have:(u++[32]).take ((u++[32]).length-1)=u:=by simp
 rw [this]
 obtain ⟨h1,h2,h3⟩:=h
 have e1:((exP u).2==2)=false:=by simpa using h1
 rw [e1,h2,h3]
 simp only [bne_self_eq_false,Bool.or_self,Bool.false_eq_true,if_false]
 split<;>rfl
theorem sideP_R {u:Bt} (h:Gd u):sideP 1 (32::u)=some (sdE (some u)):=by
 unfold sideP sdE
 have:(32::u).drop 1=u:=rfl
 have e0:((1:Nat)==0)=false:=rfl
 simp only [e0,Bool.false_eq_true,if_false]
 rw [this]
 obtain ⟨h1,h2,h3⟩:=h
 have e1:((exP u).2==2)=false:=by simpa using h1
 rw [e1,h2,h3]
 simp only [bne_self_eq_false,Bool.or_self,Bool.false_eq_true,if_false]
 split<;>rfl
theorem sides_pl {p:Sd × Sd} (h:gdP p):sidesF [tL p.1,tR p.2] 2=some ([(sdE p.1).1,(sdE p.2).1],gP p):=by
 obtain ⟨a,b⟩:=p
 have hA:sidesF [tL a,tR b] 1=some ([(sdE a).1,lf 2],(sdE a).2):=by
  simp only [sidesF,List.getD_cons_zero]
  cases a with
  | none=>simp [tL,sdE]
  | some u =>
   have:(tL (some u)==[])=false:=by simp [tL]
   rw [this]
   simp only [Bool.false_eq_true,if_false]
   show (match sideP 0 (u++[32]) with | none=>none | some (x,h)=>some (([lf 2,lf 2]:List Ex).set 0 x,false||h))=_
   rw [sideP_L h.1]
   simp
 show (match sidesF [tL a,tR b] 1 with | none=>none | some (E,g)=>if ([tL a,tR b]:List Bt).getD 1 []==[] then some (E,g) else match sideP 1 (([tL a,tR b]:List Bt).getD 1 []) with | none=>none | some (x,h)=>some (E.set 1 x,g||h))=_
 rw [hA]
 simp only [List.getD_cons_succ,List.getD_cons_zero,gP]
 cases b with
 | none=>simp [tR,sdE]
 | some u =>
  have:(tR (some u)==[])=false:=by simp [tR]
  rw [this]
  simp only [Bool.false_eq_true,if_false]
  show (match sideP 1 (32::u) with | none=>none | some (x,h)=>some (([(sdE a).1,lf 2]:List Ex).set 1 x,(sdE a).2||h))=_
  rw [sideP_R h.2]
  simp
theorem oneP_pl {p:Sd × Sd} (h:gdP p) (hl:(plcT p).length≤6000):oneP (plcT p)=some ([(sdE p.1).1,(sdE p.2).1],gP p):=by
 unfold oneP
 rw [cutS_pl h hl]
 exact sides_pl h
def segs (x:Bt):List (Sd × Sd)→List Bt
 | []=>[]
 | [p]=>[x++plcT p]
 | p::q::l=>(x++plcT p++[32])::segs [32] (q::l)
theorem segs_len (x:Bt):∀ l:List (Sd × Sd),(segs x l).length=l.length
 | []=>rfl
 | [p]=>rfl
 | p::q::l=>by simp only [segs,List.length_cons,segs_len [32] (q::l)]
theorem segs_at:∀ (l:List (Sd × Sd)) (x:Bt) (k:Nat) (p:Sd × Sd),l[k]? =some p→(segs x l).getD k []=(if k=0 then x else [32])++plcT p++(if k+1<l.length then [32] else [])
 | [],x,k,p,h=>by simp at h
 | [q],x,0,p,h=>by simp at h;subst h;simp [segs]
 | [q],x,k+1,p,h=>by simp at h
 | q::r::l,x,0,p,h=>by simp at h;subst h;simp [segs]
 | q::r::l,x,k+1,p,h=>by
  have ih:=segs_at (r::l) [32] k p (by simpa using h)
  simp only [segs,List.getD_cons_succ,ih,List.length_cons]
  rw [if_neg (by omega:¬ k+1=0)]
  have e:(if k=0 then ([32]:Bt) else [32])=[32]:=by split<;>rfl
  rw [e]
  by_cases hk:k+1<l.length+1
  ·rw [if_pos hk,if_pos (by omega)]
  ·rw [if_neg hk,if_neg (by omega)]
theorem plsT_one (p:Sd × Sd):plsT [p]=plcT p:=by simp [plsT,Lib.join_one]
theorem plsT_cons (p q:Sd × Sd) (l:List (Sd × Sd)):plsT (p::q::l)=plcT p++[32,59,32]++plsT (q::l):=by
 unfold plsT;rw [List.map_cons,List.map_cons,z4H]
theorem cutF_pl {n b i:Nat} {s r:Bt} {p:Sd × Sd} (h:gdP p) (hl:(plcT p).length≤6000) (hs:s.drop i=plcT p++r) (hn:(plcT p++r).length<n) :
  ∃ m,r.length<m∧cutF n 59 s b 0 i=cutF m 59 s b 0 (i+(plcT p).length):=by
 have hlen:=plcT_len p
 obtain ⟨ta,a1,a2⟩:=tL_lin (a:=p.1) (by omega) h.1
 obtain ⟨tb,b1,b2⟩:=tR_lin (a:=p.2) (by omega) h.2
 have e:((0:Nat):Int)=0:=rfl
 have hp:plcT p++r=ta.flatten++(95::(tb.flatten++r)):=by rw [←a1,←b1];simp [plcT]
 rw [hp] at hs hn
 obtain ⟨m,h1,h2⟩:=cutF_lin (s:=s) (b:=b) (g:=59) (.inl rfl) (a2 0) hs hn
 rw [e] at h2
 obtain ⟨m,rfl,h1⟩:=fuel_pos h1
 have hs2:s.drop (i+ta.flatten.length)=95::(tb.flatten++r):=by rw [←List.drop_drop,hs];simp
 have hs3:s.drop (i+ta.flatten.length+1)=tb.flatten++r:=by rw [←List.drop_drop,hs2];rfl
 obtain ⟨m2,h3,h4⟩:=cutF_lin (s:=s) (b:=b) (g:=59) (.inl rfl) (b2 0) hs3 (n:=m) (by simp at h1;simp;omega)
 rw [e] at h4
 refine ⟨m2,h3,?_⟩
 rw [h2,z3X hs2 (by decide) (by decide) (by decide) (by decide) (.inl (by decide)),h4,hlen,a1,b1]
 congr 1;omega
theorem z3E {a b:Bt} {i:Nat} (h:i=a.length):(a++b).drop i=b:=by subst h;simp
theorem cutF_pls:∀ (l:List (Sd × Sd)) (n b:Nat) (s s0 x:Bt),l≠[]→(∀ p∈l,gdP p)→(plsT l).length≤6000→s=s0++x++plsT l→b=s0.length→(plsT l).length<n →
  cutF n 59 s b 0 (b+x.length)=segs x l
 | [],_,_,_,_,_,h,_,_,_,_,_=>absurd rfl h
 | [p],n,b,s,s0,x,_,hg,hl,hs,hb,hn=>by
  rw [plsT_one] at hl hs hn
  have hd:s.drop (b+x.length)=plcT p++[]:=by rw [hs,List.append_nil];exact z3E (by simp [hb])
  obtain ⟨m,h1,h2⟩:=cutF_pl (b:=b) (hg p (by simp)) hl hd (n:=n) (by simpa using hn)
  obtain ⟨m,rfl,_⟩:=fuel_pos h1
  have hd2:s.drop (b+x.length+(plcT p).length)=[]:=by rw [←List.drop_drop,hd];simp
  rw [h2]
  simp only [cutF,hd2,segs]
  rw [hs,List.append_assoc,z3E hb]
 | p::q::l,n,b,s,s0,x,_,hg,hl,hs,hb,hn=>by
  rw [plsT_cons] at hl hs hn
  have hlp:(plcT p).length≤6000:=by simp at hl;omega
  have hd:s.drop (b+x.length)=plcT p++(32::59::32::plsT (q::l)):=by
   rw [hs,z3E (by simp [hb])];simp
  obtain ⟨m,h1,h2⟩:=cutF_pl (b:=b) (hg p (by simp)) hlp hd (n:=n) (by simp at hn ⊢;omega)
  obtain ⟨m,rfl,h1⟩:=fuel_pos h1
  have hd2:s.drop (b+x.length+(plcT p).length)=32::59::32::plsT (q::l):=by rw [←List.drop_drop,hd];simp
  obtain ⟨m,rfl⟩:∃ k,m=k+1:=⟨m-1,by simp at h1;omega⟩
  rw [h2,z3X hd2 (by decide) (by decide) (by decide) (by decide) (.inl (by decide))]
  have hsx:s=(s0++x++plcT p++[32])++59::(32::plsT (q::l)):=by rw [hs];simp
  have hxl:b+x.length+(plcT p).length+1=(s0++x++plcT p++[32]).length:=by simp [hb];omega
  rw [hxl,cut_here (.inl rfl) hsx (.inr (by simp)) (.inr rfl)]
  have hfirst:(s0++x++plcT p++[32]).drop b=x++plcT p++[32]:=by
   rw [List.append_assoc,List.append_assoc,z3E hb,List.append_assoc]
  rw [hfirst]
  obtain ⟨m,rfl⟩:∃ k,m=k+1:=⟨m-1,by simp at h1;omega⟩
  have hd3:s.drop ((s0++x++plcT p++[32]).length+1)=32::plsT (q::l):=by
   rw [←List.drop_drop,hsx,z3E rfl];rfl
  rw [z3X hd3 (by decide) (by decide) (by decide) (by decide) (.inl (by decide))]
  have ih:=cutF_pls (q::l) m ((s0++x++plcT p++[32]).length+1) s (s0++x++plcT p++[32]++[59]) [32] (by simp) (fun p hp=>hg p (by simp at hp ⊢;exact .inr hp)) (by simp at hl;omega) (by rw [hsx];simp) (by simp<;>omega) (by simp at h1;omega)
  have e:(s0++x++plcT p++[32]).length+1+([32]:Bt).length=(s0++x++plcT p++[32]).length+1+1:=rfl
  rw [e] at ih
  rw [ih];rfl
theorem cutS_pls {l:List (Sd × Sd)} (h0:l≠[]) (hg:∀ p∈l,gdP p) (hl:(plsT l).length≤6000):cutS (plsT l) 59=segs [] l:=by
 unfold cutS
 exact cutF_pls l _ 0 _ [] [] h0 hg hl rfl rfl (by omega)
theorem trim_seg {k n:Nat} {t:Bt} (hk:k<n):trimP k n ((if k=0 then [] else [32])++t++(if k+1<n then [32] else []))=some t:=by
 unfold trimP
 by_cases h0:k=0
 ·subst h0
  simp only [Nat.lt_irrefl,decide_false,Bool.false_and,Bool.false_eq_true,if_false,if_true,List.nil_append]
  by_cases h1:0+1<n
  ·simp only [h1,decide_true,if_true]
   have e1:(t++[32]==[])=false:=by simp
   have e2:(t++[(32:UInt8)]).getD ((t++[(32:UInt8)]).length-1) 0=32:=by simp
   rw [e1,e2];simp
  ·simp [h1]
 ·have e0:decide (0<k)=true:=by simp;omega
  simp only [e0,Bool.true_and,h0,if_false]
  have e1:([32]++t++(if k+1<n then ([32]:Bt) else [])==[])=false:=by simp
  rw [e1]
  simp only [Bool.false_eq_true,if_false,if_true]
  by_cases h1:k+1<n
  ·simp only [h1,decide_true,if_true]
   have e2:([32]++t++[(32:UInt8)]).drop 1=t++[32]:=by simp
   rw [e2]
   have e3:(t++[32]==[])=false:=by simp
   have e4:(t++[(32:UInt8)]).getD ((t++[(32:UInt8)]).length-1) 0=32:=by simp
   rw [e3,e4];simp
  ·simp [h1]
theorem plcT_le {l:List (Sd × Sd)}:∀ {p},p∈l→(plcT p).length≤(plsT l).length:=by
 induction l with
 | nil=>intro p h;simp at h
 | cons q l ih =>
  intro p h
  cases l with
  | nil=>simp at h;subst h;rw [plsT_one];exact Nat.le_refl _
  | cons r l =>
   rw [plsT_cons]
   rcases List.mem_cons.1 h with rfl | h
   ·simp
   ·have:=ih h;simp;omega
theorem any_snoc {α:Type} (l:List α) (x:α) (f:α→Bool):(l++[x]).any f=(l.any f||f x):=by simp
theorem readP_pls {l:List (Sd × Sd)} (h0:l≠[]) (hg:∀ p∈l,gdP p) (hl:(plsT l).length≤6000):readP (plsT l)=some (l.map mP,l.any gP):=by
 unfold readP
 rw [cutS_pls h0 hg hl,segs_len]
 have hk:∀ k,k≤l.length→readI (segs [] l) k=some ((l.take k).map mP,(l.take k).any gP):=by
  intro k
  induction k with
  | zero=>intro _;rfl
  | succ k ih =>
   intro hk
   obtain ⟨p,hp⟩:∃ p,l[k]? =some p:=⟨_,List.getElem?_eq_getElem (by omega)⟩
   have hpm:=List.mem_of_getElem? hp
   simp only [readI]
   rw [ih (by omega),segs_at l [] k p hp,segs_len]
   simp only
   rw [trim_seg (by omega)]
   simp only
   rw [oneP_pl (hg p hpm) (Nat.le_trans (plcT_le hpm) hl)]
   simp only
   rw [List.take_add_one,hp,Option.toList_some,List.map_append,any_snoc]
   rfl
 rw [hk l.length (Nat.le_refl _),List.take_length]
theorem z5A (x y:Bt):spl (x++32::y)=spl x++spl y:=by
 induction x with
 | nil=>simp [spl]
 | cons c x ih =>
  simp only [List.cons_append,spl,ih]
  split
  ·rfl
  ·cases hx:spl x with
   | nil=>exact absurd hx (spl_ne x)
   | cons p ps=>rfl
theorem z4D {x:Bt} (h:∀ c∈x,c≠32):spl x=[x]:=by
 induction x with
 | nil=>rfl
 | cons c x ih =>
  unfold spl
  have hc:¬ (c==32)=true:=by simpa using h c (by simp)
  rw [if_neg hc,ih fun d hd=>h d (by simp [hd])]
def DepX (x:Bt) (k:Int):Prop:=∀ (y:Bt) (n:Nat),(x++y).length<n→∃ m,y.length<m∧depF n 0 (x++y)=depF m k y
theorem DepX.nil:DepX [] 0:=fun y n h=>⟨n,by simpa using h,rfl⟩
theorem DepX.step {x t:Bt} {k k':Int} (h:DepX x k) (ht:∀ (y:Bt) (n:Nat),(t++y).length<n→∃ m,y.length<m∧depF n k (t++y)=depF m k' y):DepX (x++t) k':=by
 intro y n hn
 rw [List.append_assoc] at hn ⊢
 obtain ⟨m,h1,h2⟩:=h _ n hn
 obtain ⟨m2,h3,h4⟩:=ht y m h1
 exact ⟨m2,h3,by rw [h2,h4]⟩
def sp:Sd→List Bt
 | none=>[]
 | some u=>spl u
end Go.Ab
