/- Part 45 of the proof. -/
import Derived.Test.YtgpnlpieipoogaaGreatDoorA31
import Derived.Test.YtgpnlpieipoogaaGreatDoorA43
import Derived.Test.YtgpnlpieipoogaaGreatDoorA44
set_option linter.unusedVariables false
set_option linter.unusedSimpArgs false
namespace Go.Ab
open Go
theorem z1D {α β:Type} {x x':PR α} {f f':α→PR β} (h:x.bind f≠.oof) (hx:x≠.oof→x'=x) (hf:∀ a,x=.ok a→f a≠.oof→f' a=f a):x'.bind f'=x.bind f:=by
 cases x with
 | oof=>exact absurd rfl h
 | bad=>rw [hx (fun e=>nomatch e)];rfl
 | ok a=>rw [hx (fun e=>nomatch e)];exact hf a rfl h
theorem same_step {α:Type} {x:PR α}:x≠.oof→x=x:=fun _=>rfl
theorem pe_step:∀ (n:Nat) (md:Md) (s:Bt) (p:Nat),pe n md s p≠.oof→pe (n+1) md s p=pe n md s p
 | 0,md,s,p,h=>absurd rfl h
 | n+1,md,s,p,h=>by
  have ih:=fun md s p=>pe_step n md s p
  have ifs:∀ {α:Type} {c:Bool} {x x' y:PR α},(x≠.oof→x'=x)→(if c then y else x)≠.oof→(if c then y else x')=(if c then y else x):=by
   intro α c x x' y hx hc
   cases c
   ·exact hx hc
   ·rfl
  have ift:∀ {α:Type} {c:Bool} {x x' y:PR α},(x≠.oof→x'=x)→(if c then x else y)≠.oof→(if c then x' else y)=(if c then x else y):=by
   intro α c x x' y hx hc
   cases c
   ·rfl
   ·exact hx hc
  cases md with
  | only =>
   rw [pe] at h ⊢
   rw [pe]
   refine z1D h (ih _ _ _) fun a _ h=>z1D h same_step fun y _ h=>ift (fun h=>?_) h
   refine z1D h same_step fun t _ h=>z1D h (ifs (ih _ _ _)) fun l _ h=>z1D h same_step fun z _ h=>ift (fun h=>?_) h
   exact z1D h same_step fun u _ h=>z1D h (ifs (ih _ _ _)) fun r _ h=>rfl
  | but=>rw [pe] at h ⊢;rw [pe];exact ih _ _ _ h
  | or=>rw [pe] at h ⊢;rw [pe];exact ih _ _ _ h
  | and=>rw [pe] at h ⊢;rw [pe];exact ih _ _ _ h
  | shuffle=>rw [pe] at h ⊢;rw [pe];exact ih _ _ _ h
  | ignore=>rw [pe] at h ⊢;rw [pe];exact ih _ _ _ h
  | left op sg nx=>rw [pe] at h ⊢;rw [pe];exact z1D h (ih _ _ _) fun a _ h=>ih _ _ _ h
  | leftL op sg nx a=>rw [pe] at h ⊢;rw [pe];exact z1D h same_step fun y _ h=>ift (fun h=>z1D h (ih _ _ _) fun b _ h=>ih _ _ _ h) h
  | all op sg nx=>rw [pe] at h ⊢;rw [pe];exact z1D h (ih _ _ _) fun a _ h=>ih _ _ _ h
  | allL op sg nx l=>rw [pe] at h ⊢;rw [pe];exact z1D h same_step fun y _ h=>ift (fun h=>z1D h (ih _ _ _) fun b _ h=>ih _ _ _ h) h
  | chain=>rw [pe] at h ⊢;rw [pe];exact z1D h (ih _ _ _) fun a _ h=>ih _ _ _ h
  | chainL l=>rw [pe] at h ⊢;rw [pe];exact z1D h same_step fun y _ h=>ift (fun h=>z1D h (ih _ _ _) fun b _ h=>ih _ _ _ h) h
  | ahead =>
   rw [pe] at h ⊢;rw [pe]
   refine z1D h same_step fun t _ h=>?_
   cases h1:(t.1==[126])
   ·rw [h1] at h
    cases h2:(t.1==[36])
    ·rw [h2] at h
     exact z1D h (ih _ _ _) fun b _ h=>ih _ _ _ h
    ·rw [h2] at h
     exact z1D h (ih _ _ _) fun b _ h=>rfl
   ·rw [h1] at h
    exact z1D h (ih _ _ _) fun b _ h=>rfl
  | postL a =>
   rw [pe] at h ⊢;rw [pe]
   refine z1D h same_step fun t _ h=>?_
   cases h1:(t.1==[42])
   ·rw [h1] at h
    cases h2:(t.1==[43])
    ·rw [h2] at h
     cases h3:(t.1==[63])
     ·rfl
     ·rw [h3] at h;exact ih _ _ _ h
    ·rw [h2] at h;exact ih _ _ _ h
   ·rw [h1] at h;exact ih _ _ _ h
  | atom =>
   rw [pe] at h ⊢;rw [pe]
   refine z1D h same_step fun t _ h=>?_
   cases h0:(!bgn t.1)
   ·rw [h0] at h
    cases h1:(t.1==[46])
    ·rw [h1] at h
     cases h2:(t.1==[91,93])
     ·rw [h2] at h
      cases h3:(t.1==[33])
      ·rw [h3] at h
       cases h4:(t.1==[91])
       ·rfl
       ·rw [h4] at h
        exact z1D h (ih _ _ _) fun b _ h=>rfl
      ·rfl
     ·rfl
    ·rfl
   ·rfl
theorem pe_more {n m:Nat} {md:Md} {s:Bt} {p:Nat} {x:Ex × Nat} (h:pe n md s p=.ok x) (hm:n≤m):pe m md s p=.ok x:=by
 induction hm with
 | refl=>exact h
 | step _ ih=>rw [pe_step _ _ _ _ (by rw [ih];exact fun e=>nomatch e),ih]
def Rds (md:Md) (s:Bt) (p:Nat) (x:Ex × Nat):Prop:=∃ n,pe n md s p=.ok x
theorem Rds.both {md md':Md} {s s':Bt} {p p':Nat} {x x':Ex × Nat} (h:Rds md s p x) (h':Rds md' s' p' x'):∃ n,pe n md s p=.ok x∧pe n md' s' p'=.ok x':=by
 obtain ⟨n,h⟩:=h
 obtain ⟨m,h'⟩:=h'
 exact ⟨max n m,pe_more h (by omega),pe_more h' (by omega)⟩
section rules
variable {s:Bt} {p q:Nat} {a b:Ex} {x:Ex × Nat} {op:Int} {sg:Bt} {nx:Md} {l:List Ex} {t:Bt}
theorem Rds.but (h:Rds (.left 7 [45] .or) s p x):Rds .but s p x:=by obtain ⟨n,h⟩:=h;exact ⟨n+1,by rw [pe];exact h⟩
theorem Rds.or (h:Rds (.all 5 [124] .and) s p x):Rds .or s p x:=by obtain ⟨n,h⟩:=h;exact ⟨n+1,by rw [pe];exact h⟩
theorem Rds.and (h:Rds (.all 6 [38] .shuffle) s p x):Rds .and s p x:=by obtain ⟨n,h⟩:=h;exact ⟨n+1,by rw [pe];exact h⟩
theorem Rds.shuffle (h:Rds (.left 15 [37] .ignore) s p x):Rds .shuffle s p x:=by obtain ⟨n,h⟩:=h;exact ⟨n+1,by rw [pe];exact h⟩
theorem Rds.ignore (h:Rds (.left 13 [47] .chain) s p x):Rds .ignore s p x:=by obtain ⟨n,h⟩:=h;exact ⟨n+1,by rw [pe];exact h⟩
theorem Rds.left (h:Rds nx s p (a,q)) (h2:Rds (.leftL op sg nx a) s q x):Rds (.left op sg nx) s p x:=by
 obtain ⟨n,h,h2⟩:=h.both h2
 exact ⟨n+1,by rw [pe,h];exact h2⟩
theorem Rds.leftEnd (h:tak sg s p=.ok (false,q)):Rds (.leftL op sg nx a) s p (a,q):=⟨1,by rw [pe,h];rfl⟩
theorem Rds.leftMore {r:Nat} (h:tak sg s p=.ok (true,q)) (h2:Rds nx s q (b,r)) (h3:Rds (.leftL op sg nx (nd op [a,b])) s r x):Rds (.leftL op sg nx a) s p x:=by
 obtain ⟨n,h2,h3⟩:=h2.both h3
 exact ⟨n+1,by rw [pe,h,z0N];simp only [if_true];rw [h2];exact h3⟩
theorem Rds.all (h:Rds nx s p (a,q)) (h2:Rds (.allL op sg nx [a]) s q x):Rds (.all op sg nx) s p x:=by
 obtain ⟨n,h,h2⟩:=h.both h2
 exact ⟨n+1,by rw [pe,h];exact h2⟩
theorem Rds.allEnd (h:tak sg s p=.ok (false,q)):Rds (.allL op sg nx l) s p (oneOr op l,q):=⟨1,by rw [pe,h];rfl⟩
theorem Rds.allMore {r:Nat} (h:tak sg s p=.ok (true,q)) (h2:Rds nx s q (b,r)) (h3:Rds (.allL op sg nx (l++[b])) s r x):Rds (.allL op sg nx l) s p x:=by
 obtain ⟨n,h2,h3⟩:=h2.both h3
 exact ⟨n+1,by rw [pe,h,z0N];simp only [if_true];rw [h2];exact h3⟩
theorem Rds.chain (h:Rds .ahead s p (a,q)) (h2:Rds (.chainL [a]) s q x):Rds .chain s p x:=by
 obtain ⟨n,h,h2⟩:=h.both h2
 exact ⟨n+1,by rw [pe,h];exact h2⟩
theorem Rds.chainEnd (h:tkn s p=.ok (t,q)) (hb:bgn t=false):Rds (.chainL l) s p (oneOr 4 l,q):=⟨1,by rw [pe,h,z0N];simp only [hb];rfl⟩
theorem Rds.chainMore {r:Nat} (h:tkn s p=.ok (t,q)) (hb:bgn t=true) (h2:Rds .ahead s q (b,r)) (h3:Rds (.chainL (l++[b])) s r x):Rds (.chainL l) s p x:=by
 obtain ⟨n,h2,h3⟩:=h2.both h3
 exact ⟨n+1,by rw [pe,h,z0N];simp only [hb,if_true];rw [h2];exact h3⟩
theorem Rds.not {r:Nat} (h:tkn s p=.ok ([126],q)) (h2:Rds .ahead s (q+1) (a,r)):Rds .ahead s p (nd 11 [a],r):=by
 obtain ⟨n,h2⟩:=h2
 exact ⟨n+1,by rw [pe,h,z0N];simp only [beq_self_eq_true,if_true];rw [h2];rfl⟩
theorem Rds.has {r:Nat} (h:tkn s p=.ok ([36],q)) (h2:Rds .ahead s (q+1) (a,r)):Rds .ahead s p (nd 12 [a],r):=by
 obtain ⟨n,h2⟩:=h2
 refine ⟨n+1,?_⟩
 rw [pe,h,z0N]
 have e:(([36]:Bt)==[126])=false:=rfl
 simp only [e,Bool.false_eq_true,if_false,beq_self_eq_true,if_true]
 rw [h2];rfl
theorem Rds.ahead {r:Nat} (h:tkn s p=.ok (t,q)) (h1:t≠[126]) (h2:t≠[36]) (ha:Rds .atom s q (a,r)) (hp:Rds (.postL a) s r x):Rds .ahead s p x:=by
 obtain ⟨n,ha,hp⟩:=ha.both hp
 refine ⟨n+1,?_⟩
 have e1:(t==[126])=false:=by simpa using h1
 have e2:(t==[36])=false:=by simpa using h2
 rw [pe,h,z0N]
 simp only [e1,e2,Bool.false_eq_true,if_false]
 rw [ha];exact hp
theorem Rds.postEnd (h:tkn s p=.ok (t,q)) (h1:t≠[42]) (h2:t≠[43]) (h3:t≠[63]):Rds (.postL a) s p (a,q):=by
 have e1:(t==[42])=false:=by simpa using h1
 have e2:(t==[43])=false:=by simpa using h2
 have e3:(t==[63])=false:=by simpa using h3
 exact ⟨1,by rw [pe,h,z0N];simp only [e1,e2,e3];rfl⟩
theorem Rds.postMore {c:UInt8} (h:tkn s p=.ok ([c],q)) (hc:c=42∧op=8∨c=43∧op=9∨c=63∧op=10) (h2:Rds (.postL (nd op [a])) s (q+1) x):Rds (.postL a) s p x:=by
 obtain ⟨n,h2⟩:=h2
 refine ⟨n+1,?_⟩
 rw [pe,h,z0N]
 rcases hc with ⟨rfl,rfl⟩ | ⟨rfl,rfl⟩ | ⟨rfl,rfl⟩
 ·exact h2
 ·exact h2
 ·exact h2
theorem Rds.brk {r r2:Nat} (h:tkn s p=.ok ([91],q)) (h2:Rds .only s (q+1) (a,r)) (h3:tak [93] s r=.ok (true,r2)):Rds .atom s p (a,r2):=by
 obtain ⟨n,h2⟩:=h2
 refine ⟨n+1,?_⟩
 rw [pe,h,z0N]
 have e0:(!bgn [91])=false:=rfl
 have e1:(([91]:Bt)==[46])=false:=rfl
 have e2:(([91]:Bt)==[91,93])=false:=rfl
 have e3:(([91]:Bt)==[33])=false:=rfl
 simp only [e0,e1,e2,e3,Bool.false_eq_true,if_false,beq_self_eq_true,if_true]
 rw [h2,z0N,h3];rfl
theorem Rds.onlyEnd (h:Rds .but s p (a,q)) {r:Nat} (h2:tak [61,62] s q=.ok (false,r)):Rds .only s p (a,r):=by
 obtain ⟨n,h⟩:=h
 exact ⟨n+1,by rw [pe,h,z0N,h2];rfl⟩
end rules
end Go.Ab
namespace Go.Ab
open Go
theorem vword_one {y:Bt} (h:vword [y]=0):y.all isSig=true∧1≤y.length∧y.length≤16:=by
 unfold vword at h
 simp only [List.any_cons,List.any_nil,Bool.or_false] at h
 split at h
 ·cases h
 ·rename_i h1
  split at h
  ·cases h
  ·rename_i h2
   simp only [Bool.or_eq_true,not_or] at h1
   have hl:y.length≤16:=by
    have:=h1.2
    unfold isLongS at this
    simp only [decide_eq_true_eq] at this;omega
   have hs:isSym y=true:=by simpa using h2
   unfold isSym at hs
   simp only [Bool.and_eq_true,Bool.not_eq_true'] at hs
   have hne:y≠[]:=by simpa using hs.2
   refine ⟨?_,List.length_pos_iff.2 hne,hl⟩
   have:∀ y:Bt,(!y.any badB)=y.all isSig:=by
    intro y
    induction y with
    | nil=>rfl
    | cons c t ih=>simp only [List.any_cons,List.all_cons,Bool.not_or,ih,bad_sig,Bool.not_not]
   rw [←this,hs.1];rfl
theorem right_shape {op:Int} {s:Bt} {nl:Bool} {l:List Ex} (h:(Ex.mk op s nl l).right=true):rights l=true ∧
  ((op=0∧l=[]∧s.all isSig=true∧1≤s.length∧s.length≤16)∨((op=1∨op=2∨op=3)∧l=[]∧s=[])∨((op=8∨op=9∨op=10∨op=11∨op=12)∧s=[]∧∃ a,l=[a]) ∨
  ((op=7∨op=13∨op=15)∧s=[]∧∃ a b,l=[a,b])∨(op=14∧s=[]∧∃ a b c,l=[a,b,c])∨((op=4∨op=5∨op=6)∧s=[]∧∃ a b r,l=a::b::r)):=by
 unfold Ex.right at h
 simp only [Bool.and_eq_true,Bool.not_eq_true'] at h
 obtain ⟨⟨h1,h2⟩,h3⟩:=h
 refine ⟨h3,?_⟩
 unfold badNode at h1
 simp only [Bool.or_eq_false_iff,Bool.not_eq_false'] at h1
 obtain ⟨⟨⟨k1,k2⟩,k3⟩,k4⟩:=h1
 have hs:op≠0→s=[]:=by
  intro h0
  have e:(op != 0)=true:=by simpa using h0
  rw [e] at k4
  simpa using k4
 rcases ops_all op with ho | ho
 rotate_left
 ·exfalso
  unfold kidsS at k1
  rw [if_neg (by omega),if_neg (by omega),if_neg (by omega),if_neg (by omega),if_neg (by omega)] at k1
  cases k1
 have len0:kidsS op=(0,0,true)→l=[]:=by
  intro e
  rw [e] at k3
  simpa using k3
 have len1:kidsS op=(1,1,true)→∃ a,l=[a]:=by
  intro e
  rw [e] at k2 k3
  have:l.length=1:=by simp at k2 k3;omega
  match l,this with
  | [a],_=>exact ⟨a,rfl⟩
 have len2:kidsS op=(2,2,true)→∃ a b,l=[a,b]:=by
  intro e
  rw [e] at k2 k3
  have:l.length=2:=by simp at k2 k3;omega
  match l,this with
  | [a,b],_=>exact ⟨a,b,rfl⟩
 have len3:kidsS op=(3,3,true)→∃ a b c,l=[a,b,c]:=by
  intro e
  rw [e] at k2 k3
  have:l.length=3:=by simp at k2 k3;omega
  match l,this with
  | [a,b,c],_=>exact ⟨a,b,c,rfl⟩
 have lenm:kidsS op=(2,-1,true)→∃ a b r,l=a::b::r:=by
  intro e
  rw [e] at k2
  have:2≤l.length:=by simp at k2;omega
  match l,this with
  | a::b::r,_=>exact ⟨a,b,r,rfl⟩
 rcases ho with rfl | rfl | rfl | rfl | rfl | rfl | rfl | rfl | rfl | rfl | rfl | rfl | rfl | rfl | rfl | rfl
 ·refine .inl ⟨rfl,len0 rfl,vword_one ?_⟩
  unfold badSym at h2
  simpa using h2
 ·exact .inr (.inl ⟨by simp,len0 rfl,hs (by decide)⟩)
 ·exact .inr (.inl ⟨by simp,len0 rfl,hs (by decide)⟩)
 ·exact .inr (.inl ⟨by simp,len0 rfl,hs (by decide)⟩)
 ·exact .inr (.inr (.inr (.inr (.inr ⟨by simp,hs (by decide),lenm rfl⟩))))
 ·exact .inr (.inr (.inr (.inr (.inr ⟨by simp,hs (by decide),lenm rfl⟩))))
 ·exact .inr (.inr (.inr (.inr (.inr ⟨by simp,hs (by decide),lenm rfl⟩))))
 ·exact .inr (.inr (.inr (.inl ⟨by simp,hs (by decide),len2 rfl⟩)))
 ·exact .inr (.inr (.inl ⟨by simp,hs (by decide),len1 rfl⟩))
 ·exact .inr (.inr (.inl ⟨by simp,hs (by decide),len1 rfl⟩))
 ·exact .inr (.inr (.inl ⟨by simp,hs (by decide),len1 rfl⟩))
 ·exact .inr (.inr (.inl ⟨by simp,hs (by decide),len1 rfl⟩))
 ·exact .inr (.inr (.inl ⟨by simp,hs (by decide),len1 rfl⟩))
 ·exact .inr (.inr (.inr (.inl ⟨by simp,hs (by decide),len2 rfl⟩)))
 ·exact .inr (.inr (.inr (.inr (.inl ⟨rfl,hs (by decide),len3 rfl⟩))))
 ·exact .inr (.inr (.inr (.inl ⟨by simp,hs (by decide),len2 rfl⟩)))
theorem tok_al {c:UInt8} (R:Bt) (h:isAl c=true):tok (c::R)=some [c]:=by
 rw [z3H,h];rfl
theorem z1S {c:UInt8} (R:Bt) (h:sg15.contains c=true) (h91:c≠91):tok (c::R)=some [c]:=by
 have hm:c=95∨c=45∨c=124∨c=38∨c=37∨c=47∨c=126∨c=36∨c=42∨c=43∨c=63∨c=46∨c=33∨c=91∨c=93:=by simpa [sg15] using h
 rw [z3H]
 rcases hm with rfl | rfl | rfl | rfl | rfl | rfl | rfl | rfl | rfl | rfl | rfl | rfl | rfl | rfl | rfl
 all_goals first | rfl | exact absurd rfl h91
theorem tok_brk {c:UInt8} {R:Bt} (h:c≠93):tok (91::c::R)=some [91]:=by
 rw [z3H]
 have:(((91:UInt8)==91)&&(c::R).headD 0==93)=false:=by simpa using h
 rw [this];rfl
theorem tok_none (R:Bt):tok (91::93::R)=some [91,93]:=by rw [z3H];rfl
theorem tok_arr (R:Bt):tok (61::62::R)=some [61,62]:=by rw [z3H];rfl
theorem tok_esc {c:UInt8} (R:Bt) (h:isSig c=true) (h2:isAl c=false):tok (92::c::R)=some [92,c]:=by
 rw [z3H]
 have e:((92:UInt8)==92&&isSig ((c::R).headD 0) && !isAl ((c::R).headD 0))=true:=by simp [h,h2]
 rw [e];rfl
theorem tok_ang {w:Bt} (R:Bt) (h:w.all isSig=true) (h1:2≤w.length) (h2:w.length≤16):tok (60::(w++62::R))=some (60::(w++[62])):=by
 have hn:angN (60::(w++62::R))=w.length+1:=by
  unfold angN
  have:((60::(w++62::R)).drop 1).takeWhile isSig=w:=by
   show (w++62::R).takeWhile isSig=w
   clear h1 h2
   induction w with
   | nil=>rw [List.nil_append,List.takeWhile_cons];rfl
   | cons c w ih =>
    simp only [List.all_cons,Bool.and_eq_true] at h
    rw [List.cons_append,List.takeWhile_cons,if_pos h.1,ih h.2]
  rw [this];omega
 have hok:angOk (60::(w++62::R))=true:=by
  unfold angOk
  rw [hn]
  have e1:(60::(w++62::R)).getD (w.length+1) 0=62:=by simp
  rw [e1]
  simp
  omega
 rw [z3H,hok,hn]
 have:(60::(w++62::R)).take (w.length+1+1)=60::(w++[62]):=by
  rw [List.take_succ_cons]
  congr 1
  rw [List.take_append,List.take_of_length_le (by omega)]
  simp
 rw [this];rfl
end Go.Ab
namespace Go.Ab
open Go
def sk (u:Bt):Bt:=u.dropWhile (· == 32)
theorem sk_sk (u:Bt):sk (sk u)=sk u:=by
 unfold sk
 induction u with
 | nil=>rfl
 | cons c u ih =>
  by_cases h:(c==32)=true
  ·have e:(c::u).dropWhile (· == 32)=u.dropWhile (· == 32):=List.dropWhile_cons_of_pos h
   rw [e,ih]
  ·have e:(c::u).dropWhile (· == 32)=c::u:=List.dropWhile_cons_of_neg h
   rw [e,e]
theorem sk_bl (u:Bt):sk (32::u)=sk u:=rfl
theorem sk_tok {u t:Bt} (h:tok u=some t):sk u=u:=by
 cases u with
 | nil=>rfl
 | cons c u =>
  by_cases h2:c=32
  ·subst h2
   rw [z3H] at h
   exact absurd h (by simp [sg15,isAl])
  ·exact List.dropWhile_cons_of_neg (by simpa using h2)
theorem drop_skp (s:Bt) (p:Nat):s.drop (skp s p)=sk (s.drop p):=by
 unfold skp sk
 rw [←List.drop_drop]
 generalize s.drop p=u
 induction u with
 | nil=>rfl
 | cons c u ih =>
  by_cases h:(c==32)=true
  ·have e:(c::u).dropWhile (· == 32)=u.dropWhile (· == 32):=List.dropWhile_cons_of_pos h
   have e2:(c::u).takeWhile (· == 32)=c::u.takeWhile (· == 32):=List.takeWhile_cons_of_pos h
   rw [e,e2];exact ih
  ·have e:(c::u).dropWhile (· == 32)=c::u:=List.dropWhile_cons_of_neg h
   have e2:(c::u).takeWhile (· == 32)=[]:=List.takeWhile_cons_of_neg h
   rw [e,e2];rfl
def Rdg (md:Md) (u:Bt) (e:Ex) (r:Bt):Prop:=∀ s p,sk (s.drop p)=u→∃ q,Rds md s p (e,q)∧sk (s.drop q)=r
section rules
variable {s u v r t sg:Bt} {p:Nat} {a b x:Ex} {op:Int} {nx:Md} {l:List Ex}
theorem z3F (h:sk (s.drop p)=u) (ht:tok u=some t):tkn s p=.ok (t,skp s p):=by
 unfold tkn;rw [drop_skp,h,ht]
theorem dr_at (h:sk (s.drop p)=u):sk (s.drop (skp s p))=u:=by rw [drop_skp,sk_sk,h]
theorem dr_add (h:sk (s.drop p)=u) (k:Nat):sk (s.drop (skp s p+k))=sk (u.drop k):=by rw [←List.drop_drop,drop_skp,h]
theorem tk_no (h:sk (s.drop p)=u) (ht:tok u=some t) (hn:t≠sg):tak sg s p=.ok (false,skp s p):=by
 unfold tak
 rw [z3F h ht,z0N]
 have e:(t==sg)=false:=by simpa using hn
 simp only [e];rfl
theorem tk_yes (h:sk (s.drop p)=u) (ht:tok u=some sg):tak sg s p=.ok (true,skp s p+sg.length):=by
 unfold tak
 rw [z3F h ht,z0N]
 simp only [beq_self_eq_true,if_true]
theorem Rdg.but (h:Rdg (.left 7 [45] .or) u x r):Rdg .but u x r:=fun s p k=>let ⟨q,a,b⟩:=h s p k;⟨q,a.but,b⟩
theorem Rdg.or (h:Rdg (.all 5 [124] .and) u x r):Rdg .or u x r:=fun s p k=>let ⟨q,a,b⟩:=h s p k;⟨q,a.or,b⟩
theorem Rdg.and (h:Rdg (.all 6 [38] .shuffle) u x r):Rdg .and u x r:=fun s p k=>let ⟨q,a,b⟩:=h s p k;⟨q,a.and,b⟩
theorem Rdg.shuffle (h:Rdg (.left 15 [37] .ignore) u x r):Rdg .shuffle u x r:=fun s p k=>let ⟨q,a,b⟩:=h s p k;⟨q,a.shuffle,b⟩
theorem Rdg.ignore (h:Rdg (.left 13 [47] .chain) u x r):Rdg .ignore u x r:=fun s p k=>let ⟨q,a,b⟩:=h s p k;⟨q,a.ignore,b⟩
theorem Rdg.left (h:Rdg nx u a v) (h2:Rdg (.leftL op sg nx a) v x r):Rdg (.left op sg nx) u x r:=fun s p k =>
 let ⟨q,a1,a2⟩:=h s p k;let ⟨q2,b1,b2⟩:=h2 s q a2;⟨q2,a1.left b1,b2⟩
theorem Rdg.leftEnd (ht:tok u=some t) (hn:t≠sg):Rdg (.leftL op sg nx a) u a u:=fun s p k=>⟨_,Rds.leftEnd (tk_no k ht hn),dr_at k⟩
theorem Rdg.leftMore (ht:tok u=some sg) (h2:Rdg nx (sk (u.drop sg.length)) b v) (h3:Rdg (.leftL op sg nx (nd op [a,b])) v x r):Rdg (.leftL op sg nx a) u x r:=fun s p k =>
 let ⟨q,a1,a2⟩:=h2 s _ (dr_add k _);let ⟨q2,b1,b2⟩:=h3 s q a2;⟨q2,Rds.leftMore (tk_yes k ht) a1 b1,b2⟩
theorem Rdg.all (h:Rdg nx u a v) (h2:Rdg (.allL op sg nx [a]) v x r):Rdg (.all op sg nx) u x r:=fun s p k =>
 let ⟨q,a1,a2⟩:=h s p k;let ⟨q2,b1,b2⟩:=h2 s q a2;⟨q2,a1.all b1,b2⟩
theorem Rdg.allEnd (ht:tok u=some t) (hn:t≠sg):Rdg (.allL op sg nx l) u (oneOr op l) u:=fun s p k=>⟨_,Rds.allEnd (tk_no k ht hn),dr_at k⟩
theorem Rdg.allMore (ht:tok u=some sg) (h2:Rdg nx (sk (u.drop sg.length)) b v) (h3:Rdg (.allL op sg nx (l++[b])) v x r):Rdg (.allL op sg nx l) u x r:=fun s p k =>
 let ⟨q,a1,a2⟩:=h2 s _ (dr_add k _);let ⟨q2,b1,b2⟩:=h3 s q a2;⟨q2,Rds.allMore (tk_yes k ht) a1 b1,b2⟩
theorem Rdg.chain (h:Rdg .ahead u a v) (h2:Rdg (.chainL [a]) v x r):Rdg .chain u x r:=fun s p k =>
 let ⟨q,a1,a2⟩:=h s p k;let ⟨q2,b1,b2⟩:=h2 s q a2;⟨q2,a1.chain b1,b2⟩
theorem Rdg.chainEnd (ht:tok u=some t) (hb:bgn t=false):Rdg (.chainL l) u (oneOr 4 l) u:=fun s p k=>⟨_,Rds.chainEnd (z3F k ht) hb,dr_at k⟩
theorem Rdg.chainMore (ht:tok u=some t) (hb:bgn t=true) (h2:Rdg .ahead u b v) (h3:Rdg (.chainL (l++[b])) v x r):Rdg (.chainL l) u x r:=fun s p k =>
 let ⟨q,a1,a2⟩:=h2 s _ (dr_at k);let ⟨q2,b1,b2⟩:=h3 s q a2;⟨q2,Rds.chainMore (z3F k ht) hb a1 b1,b2⟩
theorem Rdg.not (ht:tok u=some [126]) (h2:Rdg .ahead (sk (u.drop 1)) a r):Rdg .ahead u (nd 11 [a]) r:=fun s p k =>
 let ⟨q,a1,a2⟩:=h2 s _ (dr_add k 1);⟨q,Rds.not (z3F k ht) a1,a2⟩
theorem Rdg.has (ht:tok u=some [36]) (h2:Rdg .ahead (sk (u.drop 1)) a r):Rdg .ahead u (nd 12 [a]) r:=fun s p k =>
 let ⟨q,a1,a2⟩:=h2 s _ (dr_add k 1);⟨q,Rds.has (z3F k ht) a1,a2⟩
theorem Rdg.ahead (ht:tok u=some t) (h1:t≠[126]) (h2:t≠[36]) (ha:Rdg .atom u a v) (hp:Rdg (.postL a) v x r):Rdg .ahead u x r:=fun s p k =>
 let ⟨q,a1,a2⟩:=ha s _ (dr_at k);let ⟨q2,b1,b2⟩:=hp s q a2;⟨q2,Rds.ahead (z3F k ht) h1 h2 a1 b1,b2⟩
theorem Rdg.postEnd (ht:tok u=some t) (h1:t≠[42]) (h2:t≠[43]) (h3:t≠[63]):Rdg (.postL a) u a u:=fun s p k=>⟨_,Rds.postEnd (z3F k ht) h1 h2 h3,dr_at k⟩
theorem Rdg.postMore {c:UInt8} (ht:tok u=some [c]) (hc:c=42∧op=8∨c=43∧op=9∨c=63∧op=10) (h2:Rdg (.postL (nd op [a])) (sk (u.drop 1)) x r):Rdg (.postL a) u x r:=fun s p k =>
 let ⟨q,a1,a2⟩:=h2 s _ (dr_add k 1);⟨q,Rds.postMore (z3F k ht) hc a1,a2⟩
theorem Rdg.brk (ht:tok u=some [91]) (h2:Rdg .only (sk (u.drop 1)) a v) (h3:tok v=some [93]):Rdg .atom u a (sk (v.drop 1)):=fun s p k =>
 let ⟨_,a1,a2⟩:=h2 s _ (dr_add k 1);⟨_,Rds.brk (z3F k ht) a1 (tk_yes a2 h3),dr_add a2 1⟩
theorem Rdg.onlyEnd (h:Rdg .but u a v) (ht:tok v=some t) (hn:t≠[61,62]):Rdg .only u a v:=fun s p k =>
 let ⟨_,a1,a2⟩:=h s _ k;⟨_,Rds.onlyEnd a1 (tk_no a2 ht hn),dr_at a2⟩
theorem Rdg.leaf {k:Nat} {e:Ex} (ht:tok u=some t) (hk:t.length=k) (hb:bgn t=true) (h91:t≠[91]) (he:e=if t==[46] then lf 1 else if t==[91,93] then lf 2 else if t==[33] then lf 3 else
  if t.headD 0==92 then .mk 0 (t.drop 1) true [] else if t.headD 0==60 then .mk 0 ((t.take (t.length-1)).drop 1) true [] else .mk 0 t true []):Rdg .atom u e (sk (u.drop k)):=by
 intro s p h
 refine ⟨skp s p+k,⟨1,?_⟩,dr_add h k⟩
 subst hk he
 rw [pe,z3F h ht,z0N]
 have e0:(!bgn t)=false:=by rw [hb];rfl
 have e1:(t==[91])=false:=by simpa using h91
 simp only [e0,e1,Bool.false_eq_true,if_false]
 split
 ·rename_i h;rw [eq_of_beq h];rfl
 ·split
  ·rename_i h;rw [eq_of_beq h];rfl
  ·split
   ·rename_i h;rw [eq_of_beq h];rfl
   ·split
    ·rfl
    ·split<;>rfl
theorem Rdg.only14 {w1 w2 w3:Bt} {b c:Ex} (h:Rdg .but u a v) (h2:tok v=some [61,62])
  (hb:(∃ t,tok (sk (v.drop 2))=some t∧t≠[95]∧Rdg .but (sk (v.drop 2)) b w1)∨(b=lf 2∧w1=sk (v.drop 2)))
  (hw:tok w1=some [95]) (hc:(∃ t,tok (sk (w1.drop 1))=some t∧t≠[]∧t≠[93]∧Rdg .but (sk (w1.drop 1)) c r)∨(c=lf 2∧r=sk (w1.drop 1)∧∃ t,tok r=some t∧(t=[]∨t=[93]))):Rdg .only u (nd 14 [a,b,c]) r:=by
 intro s p k
 obtain ⟨q,⟨n1,a1⟩,a2⟩:=h s p k
 have t1:=tk_yes a2 h2
 have d1:=dr_add a2 ([61,62]:Bt).length
 generalize skp s q+([61,62]:Bt).length=q1 at *
 have mid:∃ tt q2 q3,tkn s q1=.ok (tt,q2)∧(∃ m,∀ n,m≤n→(if tt==[95] then .ok (lf 2,q2) else pe n .but s q2)=.ok (b,q3))∧sk (s.drop q3)=w1:=by
  rcases hb with ⟨t,g1,g2,g3⟩ | ⟨g1,g2⟩
  ·obtain ⟨q3,⟨m,b1⟩,b2⟩:=g3 s _ (dr_at d1)
   refine ⟨t,_,q3,z3F d1 g1,⟨m,fun n hn=>?_⟩,b2⟩
   have e:(t==[95])=false:=by simpa using g2
   rw [e];exact pe_more b1 hn
  ·subst g1
   have g3:=hw
   rw [g2] at g3
   refine ⟨[95],_,_,z3F d1 g3,⟨0,fun n _=>rfl⟩,?_⟩
   exact (dr_at d1).trans g2.symm
 obtain ⟨tt,q2,q3,m1,⟨n2,m2⟩,m3⟩:=mid
 have t2:=tk_yes m3 hw
 have d2:=dr_add m3 ([95]:Bt).length
 generalize skp s q3+([95]:Bt).length=q4 at *
 have rgt:∃ uu q5 q6,tkn s q4=.ok (uu,q5)∧(∃ m,∀ n,m≤n→(if uu==[]||uu==[93] then .ok (lf 2,q5) else pe n .but s q5)=.ok (c,q6))∧sk (s.drop q6)=r:=by
  rcases hc with ⟨t,g1,g2,g3,g4⟩ | ⟨g1,g2,t,g3,g4⟩
  ·obtain ⟨q6,⟨m,b1⟩,b2⟩:=g4 s _ (dr_at d2)
   refine ⟨t,_,q6,z3F d2 g1,⟨m,fun n hn=>?_⟩,b2⟩
   have e:(t==[]||t==[93])=false:=by simp [g2,g3]
   rw [e];exact pe_more b1 hn
  ·subst g1
   rw [g2] at g3
   refine ⟨t,_,skp s q4,z3F d2 g3,⟨0,fun n _=>?_⟩,?_⟩
   ·rcases g4 with rfl | rfl<;>rfl
   ·exact (dr_at d2).trans g2.symm
 obtain ⟨uu,q5,q6,r1,⟨n3,r2⟩,r3⟩:=rgt
 refine ⟨q6,⟨n1+n2+n3+1,?_⟩,r3⟩
 rw [pe,pe_more a1 (by omega),z0N,t1,z0N]
 simp only [if_true]
 rw [m1,z0N,m2 _ (by omega),z0N,t2,z0N]
 simp only [if_true]
 rw [r1,z0N,r2 _ (by omega)]
 rfl
end rules
end Go.Ab
namespace Go.Ab
open Go
mutual
def Ex.norm:Ex→Ex
 | .mk op s _ l=>.mk op s l.isEmpty (norms l)
def norms:List Ex→List Ex
 | []=>[]
 | x::l=>x.norm::norms l
end
theorem norms_map:∀ l,norms l=l.map Ex.norm
 | []=>rfl
 | x::l=>by simp only [norms,norms_map l,List.map_cons]
def BT (u:Bt):Prop:=∃ t,bgn t=true∧∀ R,tok (u++R)=some t
def BT8 (u:Bt):Prop:=∃ t,bgn t=true∧t≠[126]∧t≠[36]∧∀ R,tok (u++R)=some t
theorem BT8.ft {u:Bt} (h:BT8 u):BT u:=let ⟨t,a,_,_,b⟩:=h;⟨t,a,b⟩
theorem BT.app {u:Bt} (h:BT u) (v:Bt):BT (u++v):=let ⟨t,a,b⟩:=h;⟨t,a,fun R=>by rw [List.append_assoc];exact b _⟩
theorem BT8.app {u:Bt} (h:BT8 u) (v:Bt):BT8 (u++v):=let ⟨t,a,c,d,b⟩:=h;⟨t,a,c,d,fun R=>by rw [List.append_assoc];exact b _⟩
theorem BT.head {u:Bt} (h:BT u):∃ c v,u=c::v∧c≠93∧c≠32:=by
 obtain ⟨t,h1,h2⟩:=h
 cases u with
 | nil =>
  have:=h2 []
  rw [List.append_nil] at this
  injection this with this
  subst this;cases h1
 | cons c v =>
  refine ⟨c,v,rfl,?_,?_⟩
  ·rintro rfl
   have:=h2 []
   rw [List.cons_append,z1S _ (by decide) (by decide)] at this
   injection this with this;subst this;cases h1
  ·rintro rfl
   have:=h2 []
   rw [List.cons_append,z3H] at this
   exact absurd this (by simp [sg15,isAl])
theorem BT.brk {u:Bt} (h:BT u):BT8 ([91]++u++[93]):=by
 obtain ⟨c,v,rfl,h1,_⟩:=h.head
 exact ⟨[91],rfl,by decide,by decide,fun R=>tok_brk h1⟩
theorem BT.sk {u:Bt} (h:BT u) (R:Bt):sk (u++R)=u++R:=by
 obtain ⟨t,_,h⟩:=h
 exact sk_tok (h R)
def NB (u:Bt):Prop:=∃ v c,u=v++[c]∧c≠32
theorem NB.app {u:Bt} (h:NB u) (v:Bt):NB (v++u):=let ⟨w,c,a,b⟩:=h;⟨v++w,c,by rw [a,List.append_assoc],b⟩
theorem NB.one {c:UInt8} (h:c≠32) (v:Bt):NB (v++[c]):=⟨v,c,rfl,h⟩
theorem tx_ft {L:Int} {k:Kd} (h:BT k.2):BT (tx L k):=by
 unfold tx
 split
 ·exact h.brk.ft
 ·exact h
theorem tx_ft8 {L:Int} {k:Kd} (h:BT k.2) (h2:L≤lvl k.1→BT8 k.2):BT8 (tx L k):=by
 unfold tx
 split
 ·exact h.brk
 ·exact h2 (by omega)
theorem tx_nb {L:Int} {k:Kd} (h:NB k.2):NB (tx L k):=by
 unfold tx
 split
 ·exact NB.one (by decide) _
 ·exact h
theorem tails_nb {sg:Bt} {L:Int}:∀ {ks:List Kd},ks≠[]→(∀ k∈ks,NB k.2)→NB (tails sg L ks)
 | [k],_,h=>by
  simp only [tails,List.append_nil]
  exact (tx_nb (h k (by simp))).app _
 | k::k'::ks,_,h=>by
  rw [tails]
  exact (tails_nb (by simp) fun x hx=>h x (List.mem_cons_of_mem _ hx)).app _
theorem jn_nb {sg:Bt} {f L:Int} {ks:List Kd} (h0:ks≠[]) (h:∀ k∈ks,NB k.2):NB (jn sg f L ks):=by
 match ks,h0 with
 | [k],_ =>
  simp only [jn,tails,List.append_nil]
  exact tx_nb (h k (by simp))
 | k::k'::ks,_ =>
  rw [jn]
  exact (tails_nb (by simp) fun x hx=>h x (List.mem_cons_of_mem _ hx)).app _
theorem jn_ft {sg:Bt} {f L:Int} {k:Kd} {ks:List Kd} (h:BT k.2):BT (jn sg f L (k::ks)):=(tx_ft h).app _
theorem isSig32 {c:UInt8} (h:isSig c=true):c≠32:=(isSig_ne h).2
theorem sSym_ft {s:Bt} (h:s.all isSig=true) (h1:1≤s.length) (h2:s.length≤16):BT8 (sSym s)∧NB (sSym s):=by
 unfold sSym
 split
 ·rename_i hl
  simp only [decide_eq_true_eq] at hl
  refine ⟨⟨60::(s++[62]),?_,by simp,by simp,fun R=>?_⟩,NB.one (by decide) _⟩
  ·unfold bgn
   have:(1<(60::(s++[62])).length):=by simp
   simp
  ·have:=tok_ang R h (by omega) h2
   simpa using this
 ·rename_i hl
  simp only [decide_eq_true_eq] at hl
  match s,h1 with
  | [c],_ =>
   simp only [List.all_cons,List.all_nil,Bool.and_true] at h
   show BT8 (if isAl c then [c] else [92]++[c])∧NB (if isAl c then [c] else [92]++[c])
   cases ha:isAl c
   ·simp only [Bool.false_eq_true,if_false]
    refine ⟨⟨[92,c],?_,by simp,by simp,fun R=>tok_esc R h ha⟩,NB.one (isSig32 h) [92]⟩
    unfold bgn
    simp
   ·simp only [if_true]
    refine ⟨⟨[c],?_,?_,?_,fun R=>tok_al R ha⟩,NB.one (isSig32 h) []⟩
    ·unfold bgn
     simp [ha]
    ·intro e;injection e with e;subst e;exact absurd ha (by decide)
    ·intro e;injection e with e;subst e;exact absurd ha (by decide)
  | c::d::s,_=>simp at hl;omega
theorem lvl_ge (op:Int):0≤lvl op:=by
 unfold lvl
 repeat' split
 all_goals decide
theorem ft_body:∀ (n:Nat) (e:Ex),e.w≤n→e.right=true→BT (body e)∧(8≤lvl e.op→BT8 (body e))∧NB (body e)
 | 0,.mk op s nl l,hn,hr=>by simp [Ex.w] at hn
 | n+1,.mk op s nl l,hn,hr=>by
  obtain ⟨hl,hs⟩:=right_shape hr
  have ih:∀ x∈l,BT (body x)∧(8≤lvl x.op→BT8 (body x))∧NB (body x):=fun x hx=>ft_body n x (by
   have:=ws_mem hx
   simp only [Ex.w] at hn;omega) (by
   have:=rights_any l
   rw [hl] at this
   simp only [Bool.not_eq_true',List.any_eq_false] at this
   simpa using this x hx)
  show BT (node op s (bodies l))∧(8≤lvl op→BT8 (node op s (bodies l)))∧NB (node op s (bodies l))
  have join:∀ {sg:Bt} {f L:Int} {a:Ex} {r:List Ex},(∀ x∈a::r,BT (body x)∧(8≤lvl x.op→BT8 (body x))∧NB (body x))→BT (jn sg f L (bodies (a::r)))∧NB (jn sg f L (bodies (a::r))):=by
   intro sg f L a r h
   refine ⟨jn_ft (h a (by simp)).1,jn_nb (by simp [bodies]) fun k hk=>?_⟩
   rw [bodies_map,List.mem_map] at hk
   obtain ⟨x,hx,rfl⟩:=hk
   exact (h x hx).2.2
  rcases hs with ⟨rfl,rfl,h1,h2,h3⟩ | ⟨ho,rfl,rfl⟩ | ⟨ho,rfl,a,rfl⟩ | ⟨ho,rfl,a,b,rfl⟩ | ⟨rfl,rfl,a,b,c,rfl⟩ | ⟨ho,rfl,a,b,r,rfl⟩
  ·have h:=sSym_ft h1 h2 h3
   exact ⟨h.1.ft,fun _=>h.1,h.2⟩
  ·rcases ho with rfl | rfl | rfl
   ·have h:BT8 [46]:=⟨[46],rfl,by decide,by decide,fun R=>z1S R (by decide) (by decide)⟩
    exact ⟨h.ft,fun _=>h,NB.one (by decide) []⟩
   ·have h:BT8 [91,93]:=⟨[91,93],rfl,by decide,by decide,fun R=>tok_none R⟩
    exact ⟨h.ft,fun _=>h,NB.one (by decide) [91]⟩
   ·have h:BT8 [33]:=⟨[33],rfl,by decide,by decide,fun R=>z1S R (by decide) (by decide)⟩
    exact ⟨h.ft,fun _=>h,NB.one (by decide) []⟩
  ·have ha:=ih a (by simp)
   have h8:BT8 (tx 8 (a.op,body a)):=tx_ft8 ha.1 ha.2.1
   rcases ho with rfl | rfl | rfl | rfl | rfl
   ·exact ⟨(h8.app [42]).ft,fun _=>h8.app [42],NB.one (by decide) _⟩
   ·exact ⟨(h8.app [43]).ft,fun _=>h8.app [43],NB.one (by decide) _⟩
   ·exact ⟨(h8.app [63]).ft,fun _=>h8.app [63],NB.one (by decide) _⟩
   ·exact ⟨⟨[126],rfl,fun R=>z1S _ (by decide) (by decide)⟩,fun h=>absurd h (by decide),(tx_nb ha.2.2).app [126]⟩
   ·exact ⟨⟨[36],rfl,fun R=>z1S _ (by decide) (by decide)⟩,fun h=>absurd h (by decide),(tx_nb ha.2.2).app [36]⟩
  ·rcases ho with rfl | rfl | rfl
   ·exact ⟨(join ih).1,fun h=>absurd h (by decide),(join ih).2⟩
   ·exact ⟨(join ih).1,fun h=>absurd h (by decide),(join ih).2⟩
   ·exact ⟨(join ih).1,fun h=>absurd h (by decide),(join ih).2⟩
  ·have ha:=ih a (by simp)
   have hc:=ih c (by simp)
   refine ⟨?_,fun h=>absurd h (by decide),?_⟩
   ·show BT (tx 1 (a.op,body a)++[32,61,62]++_++[32,95]++_)
    exact (((tx_ft ha.1).app _).app _).app _ |>.app _
   ·have hX:∀ X:Bt,NB (X++[32,95]++(if (c.op != 2) then [32]++tx 1 (c.op,body c) else [])):=by
     intro X
     split
     ·exact ((tx_nb (k:=(c.op,body c)) hc.2.2).app _).app _
     ·rw [List.append_nil]
      exact ⟨X++[32],95,by rw [List.append_assoc];rfl,by decide⟩
    exact hX _
  ·rcases ho with rfl | rfl | rfl
   ·exact ⟨(join ih).1,fun h=>absurd h (by decide),(join ih).2⟩
   ·exact ⟨(join ih).1,fun h=>absurd h (by decide),(join ih).2⟩
   ·exact ⟨(join ih).1,fun h=>absurd h (by decide),(join ih).2⟩
theorem ft_text {e:Ex} (hr:e.right=true) (L:Int):BT (textE e L):=tx_ft (ft_body _ e (Nat.le_refl _) hr).1
theorem nb_text {e:Ex} (hr:e.right=true) (L:Int):NB (textE e L):=tx_nb (ft_body _ e (Nat.le_refl _) hr).2.2
end Go.Ab
namespace Go.Ab
open Go
def stp (L:Nat) (t:Bt):Prop:=(t≠[42]∧t≠[43]∧t≠[63])∧(L≤6→bgn t=false)∧(L≤5→t≠[47])∧(L≤4→t≠[37])∧(L≤3→t≠[38])∧(L≤2→t≠[124])∧(L≤1→t≠[45])∧(L≤0→t=[]∨t=[93])
theorem stp.mono {L M:Nat} {t:Bt} (h:stp L t) (hm:L≤M):stp M t :=
 ⟨h.1,fun k=>h.2.1 (by omega),fun k=>h.2.2.1 (by omega),fun k=>h.2.2.2.1 (by omega),fun k=>h.2.2.2.2.1 (by omega),fun k=>h.2.2.2.2.2.1 (by omega),fun k=>h.2.2.2.2.2.2.1 (by omega),fun k=>h.2.2.2.2.2.2.2 (by omega)⟩
theorem stp_bgn {t:Bt} (h:bgn t=true):stp 7 t:=by
 refine ⟨⟨?_,?_,?_⟩,by omega,by omega,by omega,by omega,by omega,by omega,by omega⟩
 all_goals rintro rfl;cases h
abbrev EndL (L:Nat) (R:Bt):Prop:=∃ t,tok (sk R)=some t∧stp L t
def PLv (md:Md) (L:Nat) (e:Ex):Prop:=∀ R,EndL L R→Rdg md (textE e L++R) e.norm (sk R)
def PCv (op:Int) (sg:Bt) (nx md:Md) (L:Nat) (e:Ex):Prop:=∀ R x r,EndL (L+1) R→Rdg (.leftL op sg nx e.norm) (sk R) x r→Rdg md (textE e L++R) x r
def PAv (e:Ex):Prop:=∀ R x r,Rdg (.postL e.norm) (sk R) x r→Rdg .ahead (textE e (8:Nat)++R) x r
def mdN:Nat→Md
 | 0=>.only
 | 1=>.but
 | 2=>.or
 | 3=>.and
 | 4=>.shuffle
 | 5=>.ignore
 | 6=>.chain
 | _=>.ahead
def Lv (e:Ex):Nat→Prop
 | 1=>PCv 7 [45] .or .but 1 e
 | 4=>PCv 15 [37] .ignore .shuffle 4 e
 | 5=>PCv 13 [47] .chain .ignore 5 e
 | 8=>PAv e
 | L=>PLv (mdN L) L e
theorem PCv.pl {op:Int} {sg:Bt} {nx md:Md} {L:Nat} {e:Ex} (h:PCv op sg nx md L e) (hs:∀ t,stp L t→t≠sg):PLv md L e:=by
 intro R ⟨t,ht,hst⟩
 exact h R _ _ ⟨t,ht,hst.mono (by omega)⟩ (Rdg.leftEnd ht (hs t hst))
theorem Lv.pl {e:Ex} {L:Nat} (h:Lv e L) (hL:L≤7):PLv (mdN L) L e:=by
 match L,hL,h with
 | 0,_,h=>exact h
 | 1,_,h=>exact PCv.pl h fun t k=>k.2.2.2.2.2.2.1 (by omega)
 | 2,_,h=>exact h
 | 3,_,h=>exact h
 | 4,_,h=>exact PCv.pl h fun t k=>k.2.2.2.1 (by omega)
 | 5,_,h=>exact PCv.pl h fun t k=>k.2.2.1 (by omega)
 | 6,_,h=>exact h
 | 7,_,h=>exact h
theorem text_same {e:Ex} {L:Nat} (hl:lvl e.op≠(L:Nat)):textE e (L:Nat)=textE e ((L+1:Nat):Int):=by
 unfold textE tx
 by_cases h:lvl e.op<(L:Int)
 ·rw [if_pos h,if_pos (by simp only;omega)]
 ·rw [if_neg h,if_neg (by simp only;omega)]
theorem Lv.down {e:Ex} {L:Nat} (hL:L<8) (hl:lvl e.op≠(L:Nat)) (h:Lv e (L+1)):Lv e L:=by
 have ht:=text_same hl
 match L,hL,h,ht with
 | 7,_,h,ht =>
  intro R ⟨t,k,s⟩
  rw [ht]
  exact h R _ _ (Rdg.postEnd k s.1.1 s.1.2.1 s.1.2.2)
 | 6,_,h,ht =>
  intro R ⟨t,k,s⟩
  rw [ht]
  exact Rdg.chain (h R ⟨t,k,s.mono (by omega)⟩) (Rdg.chainEnd (l:=[e.norm]) k (s.2.1 (by omega)))
 | 5,_,h,ht =>
  intro R x r hE hc
  rw [ht]
  exact Rdg.ignore (Rdg.left (h R hE) hc)
 | 4,_,h,ht =>
  intro R x r hE hc
  rw [ht]
  exact Rdg.shuffle (Rdg.left (Lv.pl h (by omega) R hE) hc)
 | 3,_,h,ht =>
  intro R ⟨t,k,s⟩
  rw [ht]
  exact Rdg.and (Rdg.all (Lv.pl h (by omega) R ⟨t,k,s.mono (by omega)⟩) (Rdg.allEnd (l:=[e.norm]) k (s.2.2.2.2.1 (by omega))))
 | 2,_,h,ht =>
  intro R ⟨t,k,s⟩
  rw [ht]
  exact Rdg.or (Rdg.all (Lv.pl h (by omega) R ⟨t,k,s.mono (by omega)⟩) (Rdg.allEnd (l:=[e.norm]) k (s.2.2.2.2.2.1 (by omega))))
 | 1,_,h,ht =>
  intro R x r hE hc
  rw [ht]
  exact Rdg.but (Rdg.left (Lv.pl h (by omega) R hE) hc)
 | 0,_,h,ht =>
  intro R ⟨t,k,s⟩
  rw [ht]
  exact Rdg.onlyEnd (Lv.pl h (by omega) R ⟨t,k,s.mono (by omega)⟩) k (by rcases s.2.2.2.2.2.2.2 (by omega) with rfl | rfl<;>decide)
theorem ends93 (L:Nat) (R:Bt):EndL L (93::R):=by
 refine ⟨[93],?_,?_⟩
 ·show tok (93::R)=_
  exact z1S R (by decide) (by decide)
 ·exact ⟨by decide,fun _=>rfl,fun _=>by decide,fun _=>by decide,fun _=>by decide,fun _=>by decide,fun _=>by decide,fun _=>.inr rfl⟩
theorem Lv.brk {e:Ex} (hr:e.right=true) (hl:lvl e.op<8) (h:Lv e 0):Lv e 8:=by
 intro R x r hc
 have e8:textE e ((8:Nat):Int)=[91]++body e++[93]:=if_pos hl
 have e0:textE e ((0:Nat):Int)=body e:=if_neg (by have:=lvl_ge e.op;simp only;omega)
 have hb:=(ft_body _ e (Nat.le_refl _) hr).1
 obtain ⟨c,v,hv,h1,_⟩:=hb.head
 have hu:textE e ((8:Nat):Int)++R=91::(body e++93::R):=by rw [e8];simp
 rw [hu]
 have ht:tok (91::(body e++93::R))=some [91]:=by rw [hv];exact tok_brk h1
 refine Rdg.ahead (a:=e.norm) (v:=sk R) ht (by decide) (by decide) ?_ hc
 have h0:Rdg .only (body e++93::R) e.norm (93::R):=by
  have:=h (93::R) (ends93 _ _)
  rw [e0] at this
  exact this
 refine Rdg.brk ht (v:=93::R) ?_ (z1S R (by decide) (by decide))
 rw [show (91::(body e++93::R)).drop 1=body e++93::R from rfl,hb.sk]
 exact h0
def AllLv (e:Ex):Prop:=∀ L,L≤8→Lv e L
theorem all_of {e:Ex} (hr:e.right=true) {k:Nat} (hk:k≤8) (h:Lv e k) (hl:lvl e.op=(k:Nat)∨(k=8∧lvl e.op=9)):AllLv e:=by
 have low:∀ d,d≤k→Lv e (k-d):=by
  intro d
  induction d with
  | zero=>intro _;exact h
  | succ d ih =>
   intro hd
   have:=ih (by omega)
   rw [show k-d=k-(d+1)+1 by omega] at this
   exact Lv.down (by omega) (by omega) this
 have l0:Lv e 0:=by have:=low k (Nat.le_refl _);rwa [Nat.sub_self] at this
 have l8:Lv e 8:=by
  by_cases hk8:k=8
  ·subst hk8;exact h
  ·exact Lv.brk hr (by omega) l0
 have high:∀ d,k<8-d→Lv e (8-d):=by
  intro d
  induction d with
  | zero=>intro _;exact l8
  | succ d ih =>
   intro hd
   have:=ih (by omega)
   rw [show 8-d=8-(d+1)+1 by omega] at this
   exact Lv.down (by omega) (by omega) this
 intro L hL
 by_cases hLk:L≤k
 ·have:=low (k-L) (by omega)
  rwa [show k-(k-L)=L by omega] at this
 ·have:=high (8-L) (by omega)
  rwa [show 8-(8-L)=L by omega] at this
end Go.Ab
namespace Go.Ab
open Go
theorem endL_ft {u:Bt} (h:BT u) (R:Bt):EndL 7 (u++R):=by
 have hs:=h.sk R
 obtain ⟨t,hb,ht⟩:=h
 exact ⟨t,by rw [hs];exact ht R,stp_bgn hb⟩
theorem chain_loop:∀ (l acc:List Ex) (R:Bt),(∀ x∈l,x.right=true∧PLv .ahead 7 x)→EndL 6 R→Rdg (.chainL acc) (sk (tails [] 7 (bodies l)++R)) (oneOr 4 (acc++norms l)) (sk R)
 | [],acc,R,_,⟨t,ht,hs⟩=>by
  simp only [bodies,tails,norms,List.append_nil,List.nil_append]
  exact Rdg.chainEnd ht (hs.2.1 (by omega))
 | x::l,acc,R,h,hE=>by
  obtain ⟨hr,hx⟩:=h x (by simp)
  have hT:EndL 7 (tails [] 7 (bodies l)++R):=by
   cases l with
   | nil=>obtain ⟨t,ht,hs⟩:=hE;exact ⟨t,ht,hs.mono (by omega)⟩
   | cons y l =>
    have hy:BT (textE y 7):=ft_text (h y (by simp)).1 7
    exact endL_ft (hy.app _) R
  have ih:=chain_loop l (acc++[x.norm]) R (fun y hy=>h y (List.mem_cons_of_mem _ hy)) hE
  have e:tails [] 7 (bodies (x::l))++R=textE x 7++(tails [] 7 (bodies l)++R):=by
   show []++textE x 7++tails [] 7 (bodies l)++R=_
   simp
  have hx0:=ft_text hr 7
  rw [e,hx0.sk]
  have hxx:=hx _ hT
  obtain ⟨t,hb,ht⟩:=hx0
  have:acc++norms (x::l)=acc++[x.norm]++norms l:=by simp [norms]
  rw [this]
  exact Rdg.chainMore (ht _) hb hxx ih
theorem all_loop {op:Int} {c:UInt8} {nx:Md} {L:Nat} (hc:sg15.contains c=true) (h91:c≠91) (hs:stp L [c]):∀ (l acc:List Ex) (R:Bt),(∀ x∈l,x.right=true∧PLv nx L x) →
  (∃ t,tok (sk R)=some t∧t≠[c]∧stp L t)→Rdg (.allL op [c] nx acc) (sk (tails [32,c,32] (L:Nat) (bodies l)++R)) (oneOr op (acc++norms l)) (sk R)
 | [],acc,R,_,⟨t,ht,hn,_⟩=>by
  simp only [bodies,tails,norms,List.append_nil,List.nil_append]
  exact Rdg.allEnd ht hn
 | x::l,acc,R,h,hE=>by
  obtain ⟨hr,hx⟩:=h x (by simp)
  have hsk:∀ v:Bt,sk (32::c::v)=c::v:=fun v=>sk_tok (z1S v hc h91)
  have hT:EndL L (tails [32,c,32] (L:Nat) (bodies l)++R):=by
   cases l with
   | nil=>obtain ⟨t,ht,_,hs⟩:=hE;exact ⟨t,ht,hs⟩
   | cons y l =>
    refine ⟨[c],?_,hs⟩
    show tok (sk (32::c::_))=_
    rw [hsk]
    exact z1S _ hc h91
  have ih:=all_loop (op:=op) hc h91 hs l (acc++[x.norm]) R (fun y hy=>h y (List.mem_cons_of_mem _ hy)) hE
  have e:tails [32,c,32] (L:Nat) (bodies (x::l))++R=32::c::32::(textE x (L:Nat)++(tails [32,c,32] (L:Nat) (bodies l)++R)):=by
   show [32,c,32]++textE x (L:Nat)++tails [32,c,32] (L:Nat) (bodies l)++R=_
   simp
  rw [e,hsk]
  have:acc++norms (x::l)=acc++[x.norm]++norms l:=by simp [norms]
  rw [this]
  refine Rdg.allMore (z1S _ hc h91) ?_ ih
  show Rdg nx (sk (32::(textE x (L:Nat)++_))) _ _
  rw [sk_bl,(ft_text hr _).sk]
  exact hx _ hT
theorem bin_own {op:Int} {c:UInt8} {nx md:Md} {L:Nat} {nl:Bool} {a b:Ex} (hc:sg15.contains c=true) (h91:c≠91) (hs:stp (L+1) [c]) (hrb:b.right=true) (ha:PCv op [c] nx md L a) (hb:PLv nx (L+1) b)
  (ht:textE (.mk op [] nl [a,b]) (L:Nat)=textE a (L:Nat)++[32,c,32]++textE b ((L+1:Nat):Int)):PCv op [c] nx md L (.mk op [] nl [a,b]):=by
 intro R x r hE hcont
 have e:textE (.mk op [] nl [a,b]) (L:Nat)++R=textE a (L:Nat)++(32::c::32::(textE b ((L+1:Nat):Int)++R)):=by rw [ht];simp
 rw [e]
 have hsk:∀ v:Bt,sk (32::c::v)=c::v:=fun v=>sk_tok (z1S v hc h91)
 refine ha _ x r ⟨[c],by rw [hsk];exact z1S _ hc h91,hs⟩ ?_
 rw [hsk]
 refine Rdg.leftMore (b:=b.norm) (v:=sk R) (z1S _ hc h91) ?_ hcont
 show Rdg nx (sk (32::(textE b ((L+1:Nat):Int)++R))) _ _
 rw [sk_bl,(ft_text hrb _).sk]
 exact hb R hE
theorem stp1 (c:UInt8) (L:Nat) (h1:c≠42∧c≠43∧c≠63) (h2:bgn [c]=false) (h3:L≤5→c≠47) (h4:L≤4→c≠37) (h5:L≤3→c≠38) (h6:L≤2→c≠124) (h7:L≤1→c≠45) (h8:L≤0→c=93):stp L [c]:=by
 refine ⟨⟨by simpa using h1.1,by simpa using h1.2.1,by simpa using h1.2.2⟩,fun _=>h2,fun h=>by simpa using h3 h,fun h=>by simpa using h4 h,fun h=>by simpa using h5 h,fun h=>by simpa using h6 h,fun h=>by simpa using h7 h,fun h=>.inr (by rw [h8 h])⟩
end Go.Ab
namespace Go.Ab
open Go
theorem sk_drop {u v:Bt} {k:Nat} (h:u.length=k):(u++v).drop k=v:=by subst h;simp
theorem own_sym {s:Bt} {nl:Bool} (h:s.all isSig=true) (h1:1≤s.length) (h2:s.length≤16):PAv (.mk 0 s nl []):=by
 intro R x r hc
 have e8:textE (.mk 0 s nl []) ((8:Nat):Int)=sSym s:=rfl
 rw [e8]
 have hn:(Ex.mk 0 s nl []).norm=.mk 0 s true []:=rfl
 rw [hn] at hc
 unfold sSym
 split
 ·rename_i hl
  simp only [decide_eq_true_eq] at hl
  have e:[60]++s++[62]++R=60::(s++62::R):=by simp
  have ht:=tok_ang R h (by omega) h2
  rw [e]
  refine Rdg.ahead (a:=.mk 0 s true []) (v:=sk R) ht (by simp) (by simp) ?_ hc
  have hd:(60::(s++62::R)).drop (s.length+2)=R:=by
   have:60::(s++62::R)=(60::(s++[62]))++R:=by simp
   rw [this]
   exact sk_drop (by simp)
  have:=Rdg.leaf (k:=s.length+2) (e:=.mk 0 s true []) ht (by simp) (by unfold bgn;simp) (by simp) ?_
  ·rw [hd] at this;exact this
  ·have t1:((60::(s++[62]):Bt)==[46])=false:=by simp
   have t2:((60::(s++[62]):Bt)==[91,93])=false:=by simp
   have t3:((60::(s++[62]):Bt)==[33])=false:=by simp
   have t4:((60::(s++[62]):Bt).headD 0==92)=false:=rfl
   have t5:((60::(s++[62]):Bt).headD 0==60)=true:=rfl
   rw [t1,t2,t3,t4,t5]
   simp only [Bool.false_eq_true,if_false,if_true]
   congr 1
   have:(60::(s++[62]):Bt).take ((60::(s++[62]):Bt).length-1)=60::s:=by
    have e2:(60::(s++[62]):Bt)=(60::s)++[62]:=by simp
    rw [e2,List.take_left' (by simp)]
   rw [this];rfl
 ·rename_i hl
  simp only [decide_eq_true_eq] at hl
  match s,h1 with
  | [c],_ =>
   simp only [List.all_cons,List.all_nil,Bool.and_true] at h
   show Rdg .ahead ((if isAl c then [c] else [92]++[c])++R) x r
   cases ha:isAl c
   ·simp only [Bool.false_eq_true,if_false]
    have ht:=tok_esc R h ha
    refine Rdg.ahead (a:=.mk 0 [c] true []) (v:=sk R) ht (by simp) (by simp) ?_ hc
    exact Rdg.leaf (k:=2) ht rfl (by unfold bgn;simp) (by simp) rfl
   ·simp only [if_true]
    have ht:=tok_al R ha
    have n:∀ d:UInt8,isAl d=false→([c]:Bt)≠[d]:=fun d hd e=>by injection e with e;subst e;rw [ha] at hd;cases hd
    refine Rdg.ahead (a:=.mk 0 [c] true []) (v:=sk R) ht (n _ (by decide)) (n _ (by decide)) ?_ hc
    refine Rdg.leaf (k:=1) ht rfl (by unfold bgn;simp [ha]) (n _ (by decide)) ?_
    have t1:(([c]:Bt)==[46])=false:=by simpa using al_ne ha (by decide)
    have t2:(([c]:Bt)==[91,93])=false:=by simp
    have t3:(([c]:Bt)==[33])=false:=by simpa using al_ne ha (by decide)
    have t4:(([c]:Bt).headD 0==92)=false:=by simpa using al_ne ha (d:=92) (by decide)
    have t5:(([c]:Bt).headD 0==60)=false:=by simpa using al_ne ha (d:=60) (by decide)
    rw [t1,t2,t3,t4,t5]
    rfl
  | c::d::s,_=>simp at hl;omega
theorem own_leaf {op:Int} {nl:Bool} (h:op=1∨op=2∨op=3):PAv (.mk op [] nl []):=by
 intro R x r hc
 rcases h with rfl | rfl | rfl
 ·have ht:tok (46::R)=some [46]:=z1S R (by decide) (by decide)
  exact Rdg.ahead (a:=lf 1) (v:=sk R) ht (by decide) (by decide) (Rdg.leaf (k:=1) ht rfl rfl (by decide) rfl) hc
 ·have ht:=tok_none R
  exact Rdg.ahead (a:=lf 2) (v:=sk R) ht (by decide) (by decide) (Rdg.leaf (k:=2) ht rfl rfl (by decide) rfl) hc
 ·have ht:tok (33::R)=some [33]:=z1S R (by decide) (by decide)
  exact Rdg.ahead (a:=lf 3) (v:=sk R) ht (by decide) (by decide) (Rdg.leaf (k:=1) ht rfl rfl (by decide) rfl) hc
theorem own_post {op:Int} {nl:Bool} {a:Ex} (h:op=8∨op=9∨op=10) (ha:PAv a):PAv (.mk op [] nl [a]):=by
 intro R x r hc
 have go:∀ c:UInt8,sg15.contains c=true→c≠91→(c=42∧op=8∨c=43∧op=9∨c=63∧op=10)→Rdg .ahead (textE a (8:Nat)++(c::R)) x r:=by
  intro c hc1 hc2 ho
  have ht:tok (c::R)=some [c]:=z1S R hc1 hc2
  refine ha _ _ _ ?_
  rw [sk_tok ht]
  exact Rdg.postMore ht ho hc
 rcases h with rfl | rfl | rfl
 ·have e:textE (.mk 8 [] nl [a]) (8:Nat)++R=textE a (8:Nat)++(42::R):=by
   show textE a 8++[42]++R=_
   simp
  rw [e];exact go 42 (by decide) (by decide) (.inl ⟨rfl,rfl⟩)
 ·have e:textE (.mk 9 [] nl [a]) (8:Nat)++R=textE a (8:Nat)++(43::R):=by
   show textE a 8++[43]++R=_
   simp
  rw [e];exact go 43 (by decide) (by decide) (.inr (.inl ⟨rfl,rfl⟩))
 ·have e:textE (.mk 10 [] nl [a]) (8:Nat)++R=textE a (8:Nat)++(63::R):=by
   show textE a 8++[63]++R=_
   simp
  rw [e];exact go 63 (by decide) (by decide) (.inr (.inr ⟨rfl,rfl⟩))
theorem own_pre {op:Int} {nl:Bool} {a:Ex} (h:op=11∨op=12) (hr:a.right=true) (ha:PLv .ahead 7 a):PLv .ahead 7 (.mk op [] nl [a]):=by
 intro R hE
 have hx:=ha R hE
 rcases h with rfl | rfl
 ·refine Rdg.not (u:=126::(textE a 7++R)) (z1S _ (by decide) (by decide)) ?_
  show Rdg .ahead (sk (textE a 7++R)) _ _
  rw [(ft_text hr 7).sk];exact hx
 ·refine Rdg.has (u:=36::(textE a 7++R)) (z1S _ (by decide) (by decide)) ?_
  show Rdg .ahead (sk (textE a 7++R)) _ _
  rw [(ft_text hr 7).sk];exact hx
theorem own_chain {nl:Bool} {a b:Ex} {l:List Ex} (h:∀ x∈a::b::l,x.right=true∧PLv .ahead 7 x):PLv .chain 6 (.mk 4 [] nl (a::b::l)):=by
 intro R hE
 have h0:=chain_loop (b::l) [a.norm] R (fun x hx=>h x (List.mem_cons_of_mem _ hx)) hE
 have hT:EndL 7 (tails [] 7 (bodies (b::l))++R):=by
  have hy:BT (textE b 7):=ft_text (h b (by simp)).1 7
  exact endL_ft (hy.app _) R
 have e:textE (.mk 4 [] nl (a::b::l)) (6:Nat)++R=textE a (7:Nat)++(tails [] 7 (bodies (b::l))++R):=by
  show textE a 7++tails [] 7 (bodies (b::l))++R=_
  simp
 rw [e]
 exact Rdg.chain ((h a (by simp)).2 _ hT) h0
theorem own_all {op:Int} {c:UInt8} {nx:Md} {L M:Nat} {nl:Bool} {a b:Ex} {l:List Ex} (hc:sg15.contains c=true) (h91:c≠91) (hs:stp L [c]) (h:∀ x∈a::b::l,x.right=true∧PLv nx L x)
  (ht:textE (.mk op [] nl (a::b::l)) (M:Nat)=textE a (L:Nat)++tails [32,c,32] (L:Nat) (bodies (b::l))) (hM:M≤L) (hcM:∀ t,stp M t→t≠[c])
  {R:Bt} (hE:EndL M R):Rdg (.all op [c] nx) (textE (.mk op [] nl (a::b::l)) (M:Nat)++R) (Ex.mk op [] nl (a::b::l)).norm (sk R):=by
 obtain ⟨t,k,st⟩:=hE
 have h0:=all_loop (op:=op) hc h91 hs (b::l) [a.norm] R (fun x hx=>h x (List.mem_cons_of_mem _ hx)) ⟨t,k,hcM t st,st.mono hM⟩
 have hsk:∀ v:Bt,sk (32::c::v)=c::v:=fun v=>sk_tok (z1S v hc h91)
 have hT:EndL L (tails [32,c,32] (L:Nat) (bodies (b::l))++R):=by
  refine ⟨[c],?_,hs⟩
  show tok (sk (32::c::_))=_
  rw [hsk]
  exact z1S _ hc h91
 rw [ht,List.append_assoc]
 exact Rdg.all ((h a (by simp)).2 _ hT) h0
theorem own_only {nl:Bool} {a b c:Ex} (ha:a.right=true) (hb:b.right=true) (hc:c.right=true) (la:PLv .but 1 a) (lb:PLv .but 1 b) (lc:PLv .but 1 c):PLv .only 0 (.mk 14 [] nl [a,b,c]):=by
 have none2:∀ {e:Ex},e.right=true→(e.op != 2)=false→e.norm=lf 2:=by
  intro e he h2
  cases e with
  | mk op s nl l =>
   have h2:op=2:=by simpa [Ex.op] using h2
   subst h2
   obtain ⟨_,h⟩:=right_shape he
   have:l=[]∧s=[]:=by
    rcases h with ⟨h,_⟩ | ⟨_,h⟩ | ⟨h,_⟩ | ⟨h,_⟩ | ⟨h,_⟩ | ⟨h,_⟩
    ·cases h
    ·exact h
    all_goals omega
   obtain ⟨rfl,rfl⟩:=this
   rfl
 intro R hE
 obtain ⟨t,k,st⟩:=hE
 have hz:=st.2.2.2.2.2.2.2 (Nat.le_refl _)
 have right:∃ w3:Bt,sk w3=(if (c.op != 2) then textE c 1++R else sk R)∧(if (c.op != 2) then [32]++textE c 1 else [])++R=w3:=⟨_,by
  cases h:(c.op != 2)
  ·rfl
  ·show sk (32::(textE c 1++R))=textE c 1++R
   rw [sk_bl,(ft_text hc 1).sk],rfl⟩
 obtain ⟨w3,h3,h3'⟩:=right
 have e:textE (.mk 14 [] nl [a,b,c]) (0:Nat)++R=textE a (1:Nat)++(32::61::62::((if (b.op != 2) then [32]++textE b 1 else [])++(32::95::w3))):=by
  rw [←h3']
  show textE a 1++[32,61,62]++(if (b.op != 2) then [32]++textE b 1 else [])++[32,95]++(if (c.op != 2) then [32]++textE c 1 else [])++R=_
  simp
 rw [e]
 have hA:EndL 1 (32::61::62::((if (b.op != 2) then [32]++textE b 1 else [])++(32::95::w3))):=by
  refine ⟨[61,62],tok_arr _,⟨by decide,fun _=>rfl,fun _=>by decide,fun _=>by decide,fun _=>by decide,fun _=>by decide,fun _=>by decide,fun h=>by omega⟩⟩
 have hB:EndL 1 (32::95::w3):=⟨[95],z1S w3 (by decide) (by decide),⟨by decide,fun _=>rfl,fun _=>by decide,fun _=>by decide,fun _=>by decide,fun _=>by decide,fun _=>by decide,fun h=>by omega⟩⟩
 have hC:EndL 1 R:=⟨t,k,st.mono (by omega)⟩
 have h1:=la _ hA
 refine Rdg.only14 (w1:=95::w3) (w2:=[]) (w3:=[]) h1 (tok_arr _) ?_ (z1S w3 (by decide) (by decide)) ?_
 ·show (∃ t,tok (sk ((if (b.op != 2) then [32]++textE b 1 else [])++(32::95::w3)))=some t∧t≠[95]∧Rdg .but (sk ((if (b.op != 2) then [32]++textE b 1 else [])++(32::95::w3))) b.norm (95::w3))∨b.norm=lf 2∧95::w3=sk ((if (b.op != 2) then [32]++textE b 1 else [])++(32::95::w3))
  cases h:(b.op != 2)
  ·exact .inr ⟨none2 hb h,rfl⟩
  ·left
   have hx:=lb _ hB
   have hf:=ft_text hb 1
   have es:sk ((if true=true then [32]++textE b 1 else [])++(32::95::w3))=textE b 1++(32::95::w3):=by
    show sk (32::(textE b 1++(32::95::w3)))=_
    rw [sk_bl,hf.sk]
   obtain ⟨t',g1,g2⟩:=hf
   refine ⟨t',by rw [es];exact g2 _,?_,?_⟩
   ·rintro rfl;cases g1
   ·rw [es];exact hx
 ·show (∃ t,tok (sk w3)=some t∧t≠[]∧t≠[93]∧Rdg .but (sk w3) c.norm (sk R))∨c.norm=lf 2∧sk R=sk w3∧∃ t,tok (sk R)=some t∧(t=[]∨t=[93])
  rw [h3]
  cases h:(c.op != 2)
  ·exact .inr ⟨none2 hc h,rfl,t,k,hz⟩
  ·left
   have hx:=lc _ hC
   obtain ⟨t',g1,g2⟩:=ft_text hc 1
   refine ⟨t',g2 _,?_,?_,hx⟩
   ·rintro rfl;cases g1
   ·rintro rfl;cases g1
theorem all_right:∀ (n:Nat) (e:Ex),e.w≤n→e.right=true→AllLv e
 | 0,.mk op s nl l,hn,hr=>by simp [Ex.w] at hn
 | n+1,.mk op s nl l,hn,hr=>by
  obtain ⟨hl,hs⟩:=right_shape hr
  have rx:∀ x∈l,x.right=true:=fun x hx=>by
   have:=rights_any l
   rw [hl] at this
   simp only [Bool.not_eq_true',List.any_eq_false] at this
   simpa using this x hx
  have ih:∀ x∈l,AllLv x:=fun x hx=>all_right n x (by
   have:=ws_mem hx
   simp only [Ex.w] at hn;omega) (rx x hx)
  rcases hs with ⟨rfl,rfl,h1,h2,h3⟩ | ⟨ho,rfl,rfl⟩ | ⟨ho,rfl,a,rfl⟩ | ⟨ho,rfl,a,b,rfl⟩ | ⟨rfl,rfl,a,b,c,rfl⟩ | ⟨ho,rfl,a,b,r,rfl⟩
  ·exact all_of hr (k:=8) (by omega) (own_sym h1 h2 h3) (.inr ⟨rfl,rfl⟩)
  ·exact all_of hr (k:=8) (by omega) (own_leaf ho) (.inr ⟨rfl,by rcases ho with rfl | rfl | rfl<;>rfl⟩)
  ·have ia:=ih a (by simp)
   rcases ho with rfl | rfl | rfl | rfl | rfl
   ·exact all_of hr (k:=8) (by omega) (own_post (by simp) (ia 8 (by omega))) (.inl rfl)
   ·exact all_of hr (k:=8) (by omega) (own_post (by simp) (ia 8 (by omega))) (.inl rfl)
   ·exact all_of hr (k:=8) (by omega) (own_post (by simp) (ia 8 (by omega))) (.inl rfl)
   ·exact all_of hr (k:=7) (by omega) (own_pre (by simp) (rx a (by simp)) (ia 7 (by omega))) (.inl rfl)
   ·exact all_of hr (k:=7) (by omega) (own_pre (by simp) (rx a (by simp)) (ia 7 (by omega))) (.inl rfl)
  ·have ia:=ih a (by simp)
   have ib:=ih b (by simp)
   have rb:=rx b (by simp)
   have tt:∀ (sg:Bt) (f g:Int),jn sg f g (bodies [a,b])=textE a f++sg++textE b g:=fun sg f g=>by
    show textE a f++(sg++textE b g++[])=_
    simp
   rcases ho with rfl | rfl | rfl
   ·exact all_of hr (k:=1) (by omega) (bin_own (L:=1) (by decide) (by decide) (stp1 _ _ (by decide) rfl (fun h=>by decide) (fun h=>by decide) (fun h=>by decide) (fun h=>by decide) (fun h=>by omega) (fun h=>by omega)) rb (ia 1 (by omega)) (Lv.pl (ib 2 (by omega)) (by omega)) (tt _ _ _)) (.inl rfl)
   ·exact all_of hr (k:=5) (by omega) (bin_own (L:=5) (by decide) (by decide) (stp1 _ _ (by decide) rfl (fun h=>by omega) (fun h=>by omega) (fun h=>by omega) (fun h=>by omega) (fun h=>by omega) (fun h=>by omega)) rb (ia 5 (by omega)) (Lv.pl (ib 6 (by omega)) (by omega)) (tt _ _ _)) (.inl rfl)
   ·exact all_of hr (k:=4) (by omega) (bin_own (L:=4) (by decide) (by decide) (stp1 _ _ (by decide) rfl (fun h=>by decide) (fun h=>by omega) (fun h=>by omega) (fun h=>by omega) (fun h=>by omega) (fun h=>by omega)) rb (ia 4 (by omega)) (Lv.pl (ib 5 (by omega)) (by omega)) (tt _ _ _)) (.inl rfl)
  ·exact all_of hr (k:=0) (by omega) (own_only (rx a (by simp)) (rx b (by simp)) (rx c (by simp)) (Lv.pl (ih a (by simp) 1 (by omega)) (by omega)) (Lv.pl (ih b (by simp) 1 (by omega)) (by omega)) (Lv.pl (ih c (by simp) 1 (by omega)) (by omega))) (.inl rfl)
  ·rcases ho with rfl | rfl | rfl
   ·exact all_of hr (k:=6) (by omega) (own_chain fun x hx=>⟨rx x hx,ih x hx 7 (by omega)⟩) (.inl rfl)
   ·refine all_of hr (k:=2) (by omega) ?_ (.inl rfl)
    intro R hE
    exact Rdg.or (own_all (L:=3) (by decide) (by decide) (stp1 _ _ (by decide) rfl (fun h=>by decide) (fun h=>by decide) (fun h=>by decide) (fun h=>by omega) (fun h=>by omega) (fun h=>by omega)) (fun x hx=>⟨rx x hx,ih x hx 3 (by omega)⟩) rfl (by omega) (fun t st=>st.2.2.2.2.2.1 (by omega)) hE)
   ·refine all_of hr (k:=3) (by omega) ?_ (.inl rfl)
    intro R hE
    exact Rdg.and (own_all (L:=4) (by decide) (by decide) (stp1 _ _ (by decide) rfl (fun h=>by decide) (fun h=>by decide) (fun h=>by omega) (fun h=>by omega) (fun h=>by omega) (fun h=>by omega)) (fun x hx=>⟨rx x hx,Lv.pl (ih x hx 4 (by omega)) (by omega)⟩) rfl (by omega) (fun t st=>st.2.2.2.2.1 (by omega)) hE)
end Go.Ab
namespace Go.Ab
open Go
theorem pe_stable {n m:Nat} {md:Md} {s:Bt} {p:Nat} (h:pe n md s p≠.oof) (hm:n≤m):pe m md s p=pe n md s p:=by
 induction hm with
 | refl=>rfl
 | step _ ih=>rw [pe_step _ _ _ _ (by rw [ih];exact h),ih]
theorem read_text {e:Ex} (hr:e.right=true):∃ q k,peA .only (textE e 1) 0=.ok (e.norm,q)∧tkn (textE e 1) q=.ok ([],k)∧∃ ts,textE e 1=ts.flatten∧LinA ts:=by
 have h1:=Lv.pl (all_right _ e (Nat.le_refl _) hr 1 (by omega)) (by omega)
 have h2:=h1 [] ⟨[],rfl,⟨by decide,fun _=>rfl,fun _=>by decide,fun _=>by decide,fun _=>by decide,fun _=>by decide,fun _=>by decide,fun _=>.inl rfl⟩⟩
 rw [List.append_nil] at h2
 have h0:sk ((textE e 1).drop 0)=textE e 1:=by
  have:=(ft_text hr 1).sk []
  rwa [List.append_nil] at this
 obtain ⟨q,⟨n,g1⟩,g2⟩:=h2 (textE e 1) 0 h0
 obtain ⟨q',⟨m,k1⟩,k2⟩:=Rdg.onlyEnd (h2:Rdg .but (textE e 1) e.norm (sk [])) (t:=[]) rfl (by decide) (textE e 1) 0 h0
 have hlen:=pe_ok _ _ _ _ _ rfl g1 (Nat.zero_le _)
 have hA:peA .only (textE e 1) 0=.ok (e.norm,q'):=by
  have hne:peA .only (textE e 1) 0≠.oof:=pe_fuel _ _ _ _ (by decide) rfl (by omega) (by simp only [Md.rk];omega)
  have e1:=pe_stable (m:=max m (15*((textE e 1).length+1))) (show pe (15*((textE e 1).length+1)) .only (textE e 1) 0≠.oof from hne) (by omega)
  have e2:=pe_more k1 (m:=max m (15*((textE e 1).length+1))) (by omega)
  show pe (15*((textE e 1).length+1)) .only (textE e 1) 0=_
  rw [←e1,e2]
 refine ⟨q',skp (textE e 1) q',hA,z3F k2 rfl,?_⟩
 obtain ⟨ts,s1,s2⟩:=(pe_lin _ _ _ _ _ rfl g1 (Nat.zero_le _)).1 trivial
 obtain ⟨ts',s3,s4⟩:=skp_seg (textE e 1) q
 refine ⟨ts++ts',?_,s2.app s4⟩
 have s5:=s1.app s3
 unfold Seg at s5
 rw [drop_skp,g2,List.drop_zero] at s5
 have e0:sk []=[]:=rfl
 rw [e0] at s5
 simpa using s5
theorem exP_text {e:Ex} (hr:e.right=true) (hv:vexpr e.norm=0) (hl:(textE e 1).length≤6000):exP (textE e 1)=(e.norm,0):=by
 obtain ⟨q,k,h1,h2,_⟩:=read_text hr
 unfold exP
 have hd:decide (((textE e 1).length:Int)>6000)=false:=by rw [decide_eq_false_iff_not];omega
 rw [hd,h1]
 simp only [Bool.false_eq_true,if_false]
 rw [h2]
 simp only [beq_self_eq_true,if_true]
 rw [hv];rfl
theorem gd_text {e:Ex} (hr:e.right=true) (hv:vexpr e.norm=0) (hl:(textE e 1).length≤6000):Gd (textE e 1):=by
 obtain ⟨q,k,h1,h2,ts,h3,h4⟩:=read_text hr
 obtain ⟨c,v,hc,_,hc2⟩:=(ft_text hr 1).head
 have hne:textE e 1≠[]:=by rw [hc];simp
 refine ⟨?_,(tri_iff hne).2 ⟨?_,?_⟩,(bare_A h3 h4).1⟩
 ·rw [exP_text hr hv hl];show (0:Int)≠2;decide
 ·rw [hc]
  simpa using hc2
 ·obtain ⟨w,d,hd,hd2⟩:=nb_text hr 1
  rw [hd]
  simpa using hd2
end Go.Ab
namespace Go.Ab
open Go
theorem norms_len (l:List Ex):(norms l).length=l.length:=by rw [norms_map,List.length_map]
theorem norms_nil (l:List Ex):(norms l).isEmpty=l.isEmpty:=by cases l<;>rfl
mutual
theorem size_norm:∀ e:Ex,e.norm.size=e.size
 | .mk op s nl l=>by simp only [Ex.norm,Ex.size];rw [sizes_norm l]
theorem sizes_norm:∀ l:List Ex,sizes (norms l)=sizes l
 | []=>rfl
 | x::l=>by simp only [norms,sizes];rw [size_norm x,sizes_norm l]
end
mutual
theorem deep_norm:∀ e:Ex,e.norm.deep=e.deep
 | .mk op s nl l=>by simp only [Ex.norm,Ex.deep];rw [deeps_norm l]
theorem deeps_norm:∀ l:List Ex,deeps (norms l)=deeps l
 | []=>rfl
 | x::l=>by simp only [norms,deeps];rw [deep_norm x,deeps_norm l]
end
mutual
theorem odd_norm:∀ e:Ex,e.norm.odd=e.odd
 | .mk op s nl l=>by simp only [Ex.norm,Ex.odd];rw [odds_norm l]
theorem odds_norm:∀ l:List Ex,odds (norms l)=odds l
 | []=>rfl
 | x::l=>by simp only [norms,odds];rw [odd_norm x,odds_norm l]
end
mutual
theorem right_norm:∀ e:Ex,e.norm.right=e.right
 | .mk op s nl l=>by simp only [Ex.norm,Ex.right];rw [rights_norm l,norms_len]
theorem rights_norm:∀ l:List Ex,rights (norms l)=rights l
 | []=>rfl
 | x::l=>by simp only [norms,rights];rw [right_norm x,rights_norm l]
end
mutual
theorem norm_norm:∀ e:Ex,e.norm.norm=e.norm
 | .mk op s nl l=>by simp only [Ex.norm];rw [norms_norms l,norms_nil]
theorem norms_norms:∀ l:List Ex,norms (norms l)=norms l
 | []=>rfl
 | x::l=>by simp only [norms];rw [norm_norm x,norms_norms l]
end
theorem vexpr_norm (e:Ex):vexpr e.norm=vexpr e:=by unfold vexpr;rw [size_norm,deep_norm,right_norm]
theorem sym_of {w:List Bt} (h:vword w=0):w.length≤60∧∀ y∈w,y.all isSig=true∧1≤y.length∧y.length≤16:=by
 have h':=h
 unfold vword at h
 split at h
 ·cases h
 ·rename_i h1
  simp only [Bool.or_eq_true,decide_eq_true_eq,not_or] at h1
  refine ⟨by omega,fun y hy=>vword_one ?_⟩
  split at h
  ·cases h
  ·rename_i h2
   unfold vword
   have a1:isLongS y=false:=by
    have h3:w.any isLongS=false:=by simpa using h1.2
    simpa using List.any_eq_false.1 h3 y hy
   have a2:isSym y=true:=by
    have h2':(w.any fun s=>!isSym s)=false:=by simpa using h2
    simpa using List.any_eq_false.1 h2' y hy
   simp [a1,a2]
theorem wordF_text:∀ (w:List Bt) (n:Nat) (acc:List Bt),(∀ y∈w,y.all isSig=true∧1≤y.length∧y.length≤16)→(wtext w).length<n→wordF n (wtext w) acc=some (acc++w)
 | [],n,acc,_,hn=>by
  obtain ⟨n,rfl⟩:∃ k,n=k+1:=⟨n-1,by omega⟩
  simp [wtext,wordF]
 | y::w,n,acc,h,hn=>by
  obtain ⟨n,rfl⟩:∃ k,n=k+1:=⟨n-1,by omega⟩
  obtain ⟨h1,h2,h3⟩:=h y (by simp)
  have hw:∀ y∈w,y.all isSig=true∧1≤y.length∧y.length≤16:=fun z hz=>h z (List.mem_cons_of_mem _ hz)
  have hsig:∀ x∈y,x≠62∧x≠32:=fun x hx=>isSig_ne (by simpa using (List.all_eq_true.1 h1) x hx)
  have key:symAt (wtext (y::w))=some (y,(wSym y).length)∧(wtext (y::w)).drop (wSym y).length=wtext w:=by
   simp only [wtext]
   refine ⟨?_,by simp⟩
   by_cases hl:y.length=1
   ·match y,hl with
    | [c],_ =>
     have e:wSym [c]=[c]:=rfl
     rw [e]
     show symAt (c::wtext w)=_
     rw [symAt_cons]
     have hc:(c==60)=false:=by
      simp only [List.all_cons,List.all_nil,Bool.and_true] at h1
      unfold isSig at h1
      simp only [Bool.and_eq_true,bne_iff_ne,ne_eq] at h1
      simp only [beq_eq_false_iff_ne,ne_eq]
      rintro rfl
      exact absurd rfl h1.1.2
     rw [hc];rfl
   ·have e:wSym y=[60]++y++[62]:=by
     unfold wSym
     rw [if_neg (by simp only [beq_iff_eq];omega)]
    rw [e]
    have e2:[60]++y++[62]++wtext w=60::(y++62::wtext w):=by simp
    rw [e2,symAt_cons,ang_index hsig]
    have d1:decide (((y.length+1:Nat):Int)+1<4)=false:=by rw [decide_eq_false_iff_not];omega
    have d2:decide (((y.length+1:Nat):Int)+1>18)=false:=by rw [decide_eq_false_iff_not];omega
    rw [d1,d2]
    simp only [beq_self_eq_true,if_true,Bool.or_self,Bool.false_eq_true,if_false,Int.toNat_natCast]
    have e3:(60::(y++62::wtext w)).take (y.length+1)=60::y:=by
     rw [List.take_succ_cons,List.take_left' rfl]
    rw [e3]
    simp
  have hne:(wtext (y::w)==[])=false:=by
   have:wSym y≠[]:=by
    unfold wSym
    split
    ·intro e;rw [e] at h2;simp at h2
    ·simp
   simp only [wtext,beq_eq_false_iff_ne,ne_eq,List.append_eq_nil_iff,not_and]
   intro e;exact absurd e this
  have hlen:(wtext w).length<n:=by
   have:1≤(wSym y).length:=by
    unfold wSym
    split
    ·omega
    ·simp
   simp only [wtext,List.length_append] at hn;omega
  rw [wordF,hne]
  simp only [Bool.false_eq_true,if_false]
  rw [key.1]
  simp only [h1,if_true]
  rw [key.2,wordF_text w n _ hw hlen]
  simp
theorem wtext_ne {w:List Bt} (h:∀ y∈w,y.all isSig=true∧1≤y.length∧y.length≤16) (h0:w≠[]):wtext w≠[]:=by
 match w,h0 with
 | y::w,_ =>
  have:=(h y (by simp)).2.1
  simp only [wtext]
  intro e
  have e:=(List.append_eq_nil_iff.1 e).1
  unfold wSym at e
  split at e
  ·rw [e] at this;simp at this
  ·simp at e
theorem wordP_text {w:List Bt} (h:vword w=0) (hb:brk w=false):∃ w1,wordP (ptext w)=some w1∧unB (ptext w) w1=w∧w1.length≤60:=by
 obtain ⟨hl,hs⟩:=sym_of h
 by_cases h0:w=[]
 ·subst h0
  exact ⟨[[91],[93]],by rfl,rfl,by decide⟩
 ·have e:ptext w=wtext w:=by
   unfold ptext
   rw [if_neg]
   simpa using h0
  have hW:wordP (wtext w)=some w:=by
   unfold wordP
   have:(wtext w==[])=false:=by simpa using wtext_ne hs h0
   rw [this]
   simp only [Bool.false_eq_true,if_false]
   rw [wordF_text w _ [] hs (by omega)]
   simp
  refine ⟨w,by rw [e,hW],?_,hl⟩
  rw [e]
  unfold unB
  split
  ·rename_i h2
   have h2:wtext w=[91,93]:=by simpa using h2
   rw [h2] at hW
   have h3:wordP [91,93]=some [[91],[93]]:=by rfl
   rw [h3] at hW
   injection hW with hW
   rw [←hW] at hb
   cases hb
  ·rfl
theorem ptext_free {w:List Bt} (h:∀ y∈w,y.all isSig=true∧1≤y.length∧y.length≤16):∀ c∈ptext w,c≠32:=by
 have go:∀ w:List Bt,(∀ y∈w,y.all isSig=true∧1≤y.length∧y.length≤16)→∀ c∈wtext w,c≠32:=by
  intro w
  induction w with
  | nil=>intro _ c hc;simp [wtext] at hc
  | cons y w ih =>
   intro h c hc
   simp only [wtext,List.mem_append] at hc
   rcases hc with hc | hc
   ·have hy:=(h y (by simp)).1
    have:∀ x∈y,x≠32:=fun x hx=>isSig32 (by simpa using (List.all_eq_true.1 hy) x hx)
    unfold wSym at hc
    split at hc
    ·exact this c hc
    ·simp only [List.mem_append,List.mem_singleton] at hc
     rcases hc with (rfl | hc) | rfl
     ·decide
     ·exact this c hc
     ·decide
   ·exact ih (fun z hz=>h z (List.mem_cons_of_mem _ hz)) c hc
 unfold ptext
 split
 ·decide
 ·exact go w h
end Go.Ab
