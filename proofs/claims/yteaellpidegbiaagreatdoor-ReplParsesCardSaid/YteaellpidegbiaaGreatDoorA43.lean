/- Part 43 of the proof. -/
import Derived.Test.YteaellpidegbiaaGreatDoorA34
import Derived.Test.YteaellpidegbiaaGreatDoorA40
import Derived.Test.YteaellpidegbiaaGreatDoorA41
import Derived.Test.YteaellpidegbiaaGreatDoorA42
set_option linter.unusedVariables false
set_option linter.unusedSimpArgs false
namespace Go.Ab
open Go
inductive Itm:Bt→Prop
 | one (c:UInt8) (h1:c≠92) (h2:c≠60) (h3:c≠91) (h4:c≠93) (h5:c≠61) (h6:c≠95) (h7:c≠59):Itm [c]
 | esc (c:UInt8) (h:c≠32):Itm [92,c]
 | ang (w:Bt) (h:∀ x∈w,x≠62∧x≠32):Itm (60::(w++[62]))
 | none:Itm [91,93]
inductive Lin:Nat→List Bt→Nat→Prop
 | nil (d:Nat):Lin d [] d
 | item {d e:Nat} {t:Bt} {ts:List Bt} (h:Itm t) (r:Lin d ts e):Lin d (t::ts) e
 | free {d e:Nat} {t:Bt} {ts:List Bt} (h:t=[95]∨t=[61,62]) (r:Lin (d+1) ts e):Lin (d+1) (t::ts) e
 | opn {d e:Nat} {ts:List Bt} (h:∃ c r,ts.flatten=c::r∧c≠93) (r:Lin (d+1) ts e):Lin d ([91]::ts) e
 | cls {d e:Nat} {ts:List Bt} (r:Lin d ts e):Lin (d+1) ([93]::ts) e
theorem Lin.app {d e f:Nat} {a b:List Bt} (h:Lin d a e) (h2:Lin e b f):Lin d (a++b) f:=by
 induction h with
 | nil=>exact h2
 | item h _ ih=>exact .item h (ih h2)
 | free h _ ih=>exact .free h (ih h2)
 | opn h _ ih =>
  obtain ⟨c,r,h1,h3⟩:=h
  exact .opn ⟨c,r++b.flatten,by show (_++b).flatten=_;rw [List.flatten_append,h1];rfl,h3⟩ (ih h2)
 | cls _ ih=>exact .cls (ih h2)
def LinA (ts:List Bt):Prop:=∀ d,Lin d ts d
def LinO (ts:List Bt):Prop:=(∀ d,Lin (d+1) ts (d+1))∧(LinA ts∨∃ a b,ts=a++[61,62]::b∧LinA a)
theorem LinA.app {a b:List Bt} (h:LinA a) (h2:LinA b):LinA (a++b):=fun d=>(h d).app (h2 d)
theorem LinA.nil:LinA []:=fun d=>.nil d
theorem LinA.item {t:Bt} {ts:List Bt} (h:Itm t) (r:LinA ts):LinA (t::ts):=fun d=>.item h (r d)
theorem LinA.one {t:Bt} (h:Itm t):LinA [t]:=.item h .nil
theorem LinA.o {ts:List Bt} (h:LinA ts):LinO ts:=⟨fun d=>h _,.inl h⟩
def Seg (s:Bt) (p:Nat) (ts:List Bt) (q:Nat):Prop:=s.drop p=ts.flatten++s.drop q
theorem Seg.nil {s:Bt} {p:Nat}:Seg s p [] p:=rfl
theorem Seg.app {s:Bt} {p q r:Nat} {a b:List Bt} (h:Seg s p a q) (h2:Seg s q b r):Seg s p (a++b) r:=by
 unfold Seg at *
 rw [h,h2,List.flatten_append,List.append_assoc]
theorem skp_seg (s:Bt) (p:Nat):∃ ts,Seg s p ts (skp s p)∧LinA ts:=by
 unfold skp Seg
 have e:∀ l:Bt,∃ ts:List Bt,l=ts.flatten++l.drop (l.takeWhile (· == 32)).length∧LinA ts:=by
  intro l
  induction l with
  | nil=>exact ⟨[],rfl,.nil⟩
  | cons c l ih =>
   obtain ⟨ts,h1,h2⟩:=ih
   by_cases hc:(c==32)=true
   ·rw [List.takeWhile_cons_of_pos (p:=(· == 32)) hc]
    have:c=32:=by simpa using hc
    subst this
    exact ⟨[32]::ts,by simp only [List.flatten_cons,List.length_cons,List.drop_succ_cons];rw [List.append_assoc,←h1];rfl,.item (.one 32 (by decide) (by decide) (by decide) (by decide) (by decide) (by decide) (by decide)) h2⟩
   ·rw [List.takeWhile_cons_of_neg (p:=(· == 32)) hc]
    exact ⟨[],rfl,.nil⟩
 obtain ⟨ts,h1,h2⟩:=e (s.drop p)
 rw [List.drop_drop] at h1
 exact ⟨ts,h1,h2⟩
theorem isSig_ne {x:UInt8} (h:isSig x=true):x≠62∧x≠32:=by
 constructor
 ·rintro rfl;revert h;decide
 ·rintro rfl;revert h;decide
theorem al_ne {c:UInt8} (h:isAl c=true) {d:UInt8} (hd:isAl d=false):c≠d:=fun e=>by rw [e,hd] at h;cases h
theorem tok_pre {r t:Bt} (h:tok r=some t):r=t++r.drop t.length:=by
 unfold tok at h
 split at h
 ·injection h with h;subst h;rfl
 ·rename_i c u
  have tk:∀ n,(c::u)=(c::u).take n++(c::u).drop ((c::u).take n).length:=fun n=>by
   conv=>lhs;rw [←List.take_append_drop n (c::u)]
   congr 1
   rw [List.length_take]
   rcases Nat.le_total n (c::u).length with h | h
   ·rw [Nat.min_eq_left h]
   ·rw [Nat.min_eq_right h,List.drop_of_length_le h,List.drop_of_length_le (Nat.le_refl _)]
  split at h
  ·injection h with h;subst h;exact tk 2
  ·split at h
   ·injection h with h;subst h;rfl
   ·split at h
    ·injection h with h;subst h;exact tk 2
    ·split at h
     ·injection h with h;subst h;exact tk _
     ·cases h
theorem ang_item {r:Bt} (h0:r.headD 0=60) (h:angOk r=true):Itm (r.take (angN r+1)):=by
 unfold angOk at h
 simp only [Bool.and_eq_true,decide_eq_true_eq,beq_iff_eq] at h
 obtain ⟨⟨⟨h3,h17⟩,hlt⟩,h62⟩:=h
 cases r with
 | nil=>simp at hlt
 | cons c t =>
  have hc:c=60:=by simpa using h0
  subst hc
  have hn:angN (60::t)=1+(t.takeWhile isSig).length:=rfl
  rw [hn] at hlt h62 ⊢
  generalize hw:t.takeWhile isSig=w at *
  have e1:t.take w.length=w:=by
   have:=List.prefix_iff_eq_take.1 (List.takeWhile_prefix (l:=t) isSig)
   rw [hw] at this;exact this.symm
  have hl:w.length<t.length:=by simp at hlt;omega
  have e2:t.getD w.length 0=62:=by
   rw [Nat.add_comm] at h62
   simpa using h62
  have e3:t.take (w.length+1)=w++[62]:=by
   rw [List.take_add_one,e1,List.getElem?_eq_getElem hl]
   rw [List.getD_eq_getElem?_getD,List.getElem?_eq_getElem hl] at e2
   have e2:t[w.length]=62:=e2
   rw [e2];rfl
  have e4:(60::t).take (1+w.length+1)=60::(w++[62]):=by
   rw [show 1+w.length+1=(w.length+1)+1 by omega,List.take_succ_cons,e3]
  rw [e4]
  refine .ang w fun x hx=>isSig_ne ?_
  rw [←hw] at hx
  exact (List.all_eq_true.1 (List.all_takeWhile (l:=t) (p:=isSig))) x hx
theorem tok_cases {r t:Bt} (h:tok r=some t):t=[]∨Itm t∨t=[61,62]∨t=[95]∨(t=[91]∧(r.drop 1).headD 0≠93)∨t=[93]:=by
 unfold tok at h
 split at h
 ·injection h with h;exact .inl h.symm
 ·rename_i c u
  split at h
  ·injection h with h;subst h
   rename_i hh
   simp only [Bool.or_eq_true,beq_iff_eq] at hh
   rcases hh with hh | hh
   ·exact .inr (.inr (.inl hh))
   ·rw [hh];exact .inr (.inl .none)
  ·rename_i hno
   simp only [Bool.or_eq_true,beq_iff_eq,not_or] at hno
   split at h
   ·injection h with h;subst h
    rename_i hh
    by_cases ha:isAl c=true
    ·exact .inr (.inl (.one c (al_ne ha (by decide)) (al_ne ha (by decide)) (al_ne ha (by decide)) (al_ne ha (by decide)) (al_ne ha (by decide)) (al_ne ha (by decide)) (al_ne ha (by decide))))
    ·have hs:sg15.contains c=true:=by
      rcases (Bool.or_eq_true _ _ ▸ hh) with hh | hh
      ·exact absurd hh ha
      ·exact hh
     have hm:c=95∨c=45∨c=124∨c=38∨c=37∨c=47∨c=126∨c=36∨c=42∨c=43∨c=63∨c=46∨c=33∨c=91∨c=93:=by simpa [sg15] using hs
     clear hs hh ha
     have one:∀ {c:UInt8},(c≠92∧c≠60∧c≠91∧c≠93∧c≠61∧c≠95∧c≠59)→Itm [c]:=fun h=>.one _ h.1 h.2.1 h.2.2.1 h.2.2.2.1 h.2.2.2.2.1 h.2.2.2.2.2.1 h.2.2.2.2.2.2
     rcases hm with rfl | rfl | rfl | rfl | rfl | rfl | rfl | rfl | rfl | rfl | rfl | rfl | rfl | rfl | rfl
     ·exact .inr (.inr (.inr (.inl rfl)))
     ·exact .inr (.inl (one (by decide)))
     ·exact .inr (.inl (one (by decide)))
     ·exact .inr (.inl (one (by decide)))
     ·exact .inr (.inl (one (by decide)))
     ·exact .inr (.inl (one (by decide)))
     ·exact .inr (.inl (one (by decide)))
     ·exact .inr (.inl (one (by decide)))
     ·exact .inr (.inl (one (by decide)))
     ·exact .inr (.inl (one (by decide)))
     ·exact .inr (.inl (one (by decide)))
     ·exact .inr (.inl (one (by decide)))
     ·exact .inr (.inl (one (by decide)))
     ·refine .inr (.inr (.inr (.inr (.inl ⟨rfl,?_⟩))))
      intro he
      cases u with
      | nil=>simp at he
      | cons d u =>
       have:d=93:=by simpa using he
       subst this
       exact hno.2 rfl
     ·exact .inr (.inr (.inr (.inr (.inr rfl))))
   ·split at h
    ·injection h with h;subst h
     rename_i hh
     simp only [Bool.and_eq_true,beq_iff_eq] at hh
     obtain ⟨⟨⟨h1,h2⟩,h3⟩,h4⟩:=hh
     subst h1
     cases u with
     | nil=>simp at h2
     | cons d u =>
      exact .inr (.inl (.esc d (isSig_ne (x:=d) (by simpa using h3)).2))
    ·split at h
     ·injection h with h;subst h
      rename_i hh
      simp only [Bool.and_eq_true,beq_iff_eq] at hh
      exact .inr (.inl (ang_item (by simpa using hh.1) hh.2))
     ·cases h
theorem z3Q {s:Bt} {p:Nat} {t:Bt × Nat} (h:tkn s p=.ok t) (hp:p≤s.length):(∃ ts,Seg s p ts t.2∧LinA ts)∧Seg s t.2 [t.1] (t.2+t.1.length)∧t.2=skp s p∧tok (s.drop t.2)=some t.1:=by
 obtain ⟨_,_,h3,h4⟩:=z2F h hp
 refine ⟨by rw [h3];exact skp_seg s p,?_,h3,h4⟩
 have:=tok_pre h4
 rw [List.drop_drop] at this
 unfold Seg
 simpa using this
theorem tak_seg {s u:Bt} {p:Nat} {y:Bool × Nat} (h:tak u s p=.ok y) (hp:p≤s.length):(y.1=false→∃ ts,Seg s p ts y.2∧LinA ts) ∧
  (y.1=true→∃ ts q,Seg s p ts q∧LinA ts∧Seg s q [u] y.2∧tok (s.drop q)=some u∧y.2=q+u.length):=by
 unfold tak at h
 obtain ⟨t,h1,h2⟩:=z0Q h
 have hh:=z3Q h1 hp
 obtain ⟨⟨ts,a,b⟩,c,d,e⟩:=hh
 split at h2
 ·rename_i hu
  have hu:t.1=u:=by simpa using hu
  injection h2 with h2;subst h2;subst hu
  exact ⟨fun h=>(by cases h),fun _=>⟨ts,_,a,b,c,e,rfl⟩⟩
 ·injection h2 with h2;subst h2
  exact ⟨fun _=>⟨ts,a,b⟩,fun h=>by cases h⟩
abbrev SegA (s:Bt) (p q:Nat):Prop:=∃ ts,Seg s p ts q∧LinA ts
theorem SegA.app {s:Bt} {p q r:Nat} (h:SegA s p q) (h2:SegA s q r):SegA s p r:=by
 obtain ⟨a,h1,h3⟩:=h
 obtain ⟨b,h4,h5⟩:=h2
 exact ⟨a++b,h1.app h4,h3.app h5⟩
theorem SegA.nil {s:Bt} {p:Nat}:SegA s p p:=⟨[],.nil,.nil⟩
theorem SegA.tok {s:Bt} {p q:Nat} {t:Bt} (h:Seg s p [t] q) (ht:Itm t):SegA s p q:=⟨[t],h,.one ht⟩
def Md.it:Md→Prop
 | .left _ sg nx=>Itm sg∧nx.it
 | .all _ sg nx=>Itm sg∧nx.it
 | .leftL _ sg nx _=>Itm sg∧nx.it
 | .allL _ sg nx _=>Itm sg∧nx.it
 | .only=>False
 | _=>True
abbrev SegO (s:Bt) (p q:Nat):Prop:=∃ ts,Seg s p ts q∧LinO ts
theorem SegA.o {s:Bt} {p q:Nat} (h:SegA s p q):SegO s p q:=by
 obtain ⟨a,h1,h3⟩:=h
 exact ⟨a,h1,h3.o⟩
theorem SegA.tak {s u:Bt} {p:Nat} {y:Bool × Nat} (h:tak u s p=.ok y) (hp:p≤s.length) (hu:Itm u):SegA s p y.2:=by
 obtain ⟨h1,h2⟩:=tak_seg h hp
 cases hy:y.1
 ·exact h1 hy
 ·obtain ⟨ts,q,a,b,c,_,_⟩:=h2 hy
  exact SegA.app ⟨ts,a,b⟩ (SegA.tok c hu)
theorem i1 {c:UInt8} (h:c≠92∧c≠60∧c≠91∧c≠93∧c≠61∧c≠95∧c≠59):Itm [c]:=.one _ h.1 h.2.1 h.2.2.1 h.2.2.2.1 h.2.2.2.2.1 h.2.2.2.2.2.1 h.2.2.2.2.2.2
theorem lin_free {t:Bt} (h:t=[95]∨t=[61,62]) (d:Nat):Lin (d+1) [t] (d+1):=.free h (.nil _)
theorem pe_lin:∀ (n:Nat) (md:Md) (s:Bt) (p:Nat) (x:Ex × Nat),md.sgn=true→pe n md s p=.ok x→p≤s.length→(md.it→SegA s p x.2)∧(md=.only→SegO s p x.2)
 | 0,md,s,p,x,_,h,hp=>by simp [pe] at h
 | n+1,md,s,p,x,hsg,h,hp=>by
  have ih:=pe_lin n
  cases md with
  | only =>
   refine ⟨fun h=>h.elim,fun _=>?_⟩
   simp only [pe] at h
   obtain ⟨a,ha,h⟩:=z0Q h
   obtain ⟨y,hy,h⟩:=z0Q h
   obtain ⟨a1,a2,a3,a4⟩:=pe_ok _ _ _ _ _ rfl ha hp
   obtain ⟨y1,y2,y3⟩:=z2S hy a2
   have sa:=(ih _ _ _ _ rfl ha hp).1 trivial
   obtain ⟨s1,s2⟩:=tak_seg hy a2
   split at h
   ·rename_i hy1
    obtain ⟨t1,q1,g1,g2,g3,_,_⟩:=s2 hy1
    obtain ⟨t,ht,h⟩:=z0Q h
    obtain ⟨l,hl,h⟩:=z0Q h
    obtain ⟨k1,k2,_,_⟩:=z2F ht y2
    have st:=(z3Q ht y2).1
    have hl':SegA s t.2 l.2∧t.2≤l.2∧l.2≤s.length:=by
     split at hl
     ·injection hl with hl;subst hl;exact ⟨.nil,Nat.le_refl _,by simp only;omega⟩
     ·obtain ⟨b1,b2,b3,b4⟩:=pe_ok _ _ _ _ _ rfl hl (by omega)
      exact ⟨(ih _ _ _ _ rfl hl (by omega)).1 trivial,b1,b2⟩
    obtain ⟨l1,l2,l3⟩:=hl'
    obtain ⟨z,hz,h⟩:=z0Q h
    obtain ⟨z1,z2,z3⟩:=z2S hz l3
    obtain ⟨_,sz⟩:=tak_seg hz l3
    split at h
    ·rename_i hz1
     obtain ⟨t2,q2,f1,f2,f3,_,_⟩:=sz hz1
     obtain ⟨u,hu,h⟩:=z0Q h
     obtain ⟨u1,u2,_,_⟩:=z2F hu z2
     have su:=(z3Q hu z2).1
     obtain ⟨r,hr,h⟩:=z0Q h
     have hr':SegA s u.2 r.2:=by
      split at hr
      ·injection hr with hr;subst hr;exact .nil
      ·exact (ih _ _ _ _ rfl hr (by omega)).1 trivial
     injection h with h;subst h
     obtain ⟨ta,ga,la⟩:=sa.app ⟨t1,g1,g2⟩
     obtain ⟨tb,gb,lb⟩:=(SegA.app st l1).app ⟨t2,f1,f2⟩
     obtain ⟨tc,gc,lc⟩:=SegA.app su hr'
     refine ⟨ta++([[61,62]]++(tb++([[95]]++tc))),ga.app (g3.app (gb.app (f3.app gc))),fun d=>?_,.inr ⟨ta,_,rfl,la⟩⟩
     exact (la _).app ((lin_free (.inr rfl) _).app ((lb _).app ((lin_free (.inl rfl) _).app (lc _))))
    ·cases h
   ·rename_i hy1
    injection h with h;subst h
    exact (sa.app (s1 (by simpa using hy1))).o
  | but=>simp only [pe] at h;exact ⟨fun _=>(ih _ _ _ _ rfl h hp).1 ⟨i1 (by decide),trivial⟩,fun h=>by cases h⟩
  | or=>simp only [pe] at h;exact ⟨fun _=>(ih _ _ _ _ rfl h hp).1 ⟨i1 (by decide),trivial⟩,fun h=>by cases h⟩
  | and=>simp only [pe] at h;exact ⟨fun _=>(ih _ _ _ _ rfl h hp).1 ⟨i1 (by decide),trivial⟩,fun h=>by cases h⟩
  | shuffle=>simp only [pe] at h;exact ⟨fun _=>(ih _ _ _ _ rfl h hp).1 ⟨i1 (by decide),trivial⟩,fun h=>by cases h⟩
  | ignore=>simp only [pe] at h;exact ⟨fun _=>(ih _ _ _ _ rfl h hp).1 ⟨i1 (by decide),trivial⟩,fun h=>by cases h⟩
  | left op sg nx =>
   refine ⟨fun hit=>?_,fun h=>by cases h⟩
   simp only [Md.sgn,Bool.and_eq_true] at hsg
   simp only [pe] at h
   obtain ⟨a,ha,h⟩:=z0Q h
   obtain ⟨a1,a2,a3,a4⟩:=pe_ok _ _ _ _ _ hsg.1.2 ha hp
   exact ((ih _ _ _ _ hsg.1.2 ha hp).1 hit.2).app ((ih (.leftL op sg nx a.1) _ _ _ (by simp only [Md.sgn,Bool.and_eq_true];exact hsg) h a2).1 hit)
  | leftL op sg nx a =>
   refine ⟨fun hit=>?_,fun h=>by cases h⟩
   have hsg':=hsg
   simp only [Md.sgn,Bool.and_eq_true] at hsg
   simp only [pe] at h
   obtain ⟨y,hy,h⟩:=z0Q h
   obtain ⟨y1,y2,y3⟩:=z2S hy hp
   have sy:=SegA.tak hy hp hit.1
   split at h
   ·obtain ⟨b,hb,h⟩:=z0Q h
    obtain ⟨b1,b2,b3,b4⟩:=pe_ok _ _ _ _ _ hsg.1.2 hb y2
    exact sy.app (((ih _ _ _ _ hsg.1.2 hb y2).1 hit.2).app ((ih (.leftL op sg nx (nd op [a,b.1])) _ _ _ hsg' h b2).1 hit))
   ·injection h with h;subst h;exact sy
  | all op sg nx =>
   refine ⟨fun hit=>?_,fun h=>by cases h⟩
   simp only [Md.sgn,Bool.and_eq_true] at hsg
   simp only [pe] at h
   obtain ⟨a,ha,h⟩:=z0Q h
   obtain ⟨a1,a2,a3,a4⟩:=pe_ok _ _ _ _ _ hsg.1.2 ha hp
   exact ((ih _ _ _ _ hsg.1.2 ha hp).1 hit.2).app ((ih (.allL op sg nx [a.1]) _ _ _ (by simp only [Md.sgn,Bool.and_eq_true];exact ⟨hsg,rfl⟩) h a2).1 hit)
  | allL op sg nx l =>
   refine ⟨fun hit=>?_,fun h=>by cases h⟩
   simp only [Md.sgn,Bool.and_eq_true] at hsg
   simp only [pe] at h
   obtain ⟨y,hy,h⟩:=z0Q h
   obtain ⟨y1,y2,y3⟩:=z2S hy hp
   have sy:=SegA.tak hy hp hit.1
   split at h
   ·obtain ⟨b,hb,h⟩:=z0Q h
    obtain ⟨b1,b2,b3,b4⟩:=pe_ok _ _ _ _ _ hsg.1.1.2 hb y2
    exact sy.app (((ih _ _ _ _ hsg.1.1.2 hb y2).1 hit.2).app ((ih (.allL op sg nx (l++[b.1])) _ _ _ (by simp only [Md.sgn,Bool.and_eq_true];exact ⟨hsg.1,by simp⟩) h b2).1 hit))
   ·injection h with h;subst h;exact sy
  | chain =>
   refine ⟨fun hit=>?_,fun h=>by cases h⟩
   simp only [pe] at h
   obtain ⟨a,ha,h⟩:=z0Q h
   obtain ⟨a1,a2,a3,a4⟩:=pe_ok _ _ _ _ _ rfl ha hp
   exact ((ih _ _ _ _ rfl ha hp).1 trivial).app ((ih (.chainL [a.1]) _ _ _ rfl h a2).1 trivial)
  | chainL l =>
   refine ⟨fun hit=>?_,fun h=>by cases h⟩
   simp only [pe] at h
   obtain ⟨t,ht,h⟩:=z0Q h
   obtain ⟨t1,t2,_,_⟩:=z2F ht hp
   have st:=(z3Q ht hp).1
   split at h
   ·obtain ⟨b,hb,h⟩:=z0Q h
    obtain ⟨b1,b2,b3,b4⟩:=pe_ok _ _ _ _ _ rfl hb (by omega)
    exact SegA.app st (((ih _ _ _ _ rfl hb (by omega)).1 trivial).app ((ih (.chainL (l++[b.1])) _ _ _ (by simp [Md.sgn]) h b2).1 trivial))
   ·injection h with h;subst h;exact st
  | ahead =>
   refine ⟨fun hit=>?_,fun h=>by cases h⟩
   simp only [pe] at h
   obtain ⟨t,ht,h⟩:=z0Q h
   obtain ⟨t1,t2,_,_⟩:=z2F ht hp
   obtain ⟨st,sq,_,_⟩:=z3Q ht hp
   split at h
   ·rename_i e
    have e:t.1=[126]:=by simpa using e
    rw [e] at sq t2
    simp only [List.length_cons,List.length_nil] at t2
    obtain ⟨b,hb,h⟩:=z0Q h
    injection h with h;subst h
    exact SegA.app st (SegA.app (SegA.tok sq (i1 (by decide))) ((ih _ _ _ _ rfl hb (by omega)).1 trivial))
   ·split at h
    ·rename_i e
     have e:t.1=[36]:=by simpa using e
     rw [e] at sq t2
     simp only [List.length_cons,List.length_nil] at t2
     obtain ⟨b,hb,h⟩:=z0Q h
     injection h with h;subst h
     exact SegA.app st (SegA.app (SegA.tok sq (i1 (by decide))) ((ih _ _ _ _ rfl hb (by omega)).1 trivial))
    ·obtain ⟨b,hb,h⟩:=z0Q h
     obtain ⟨b1,b2,b3,b4⟩:=pe_ok _ _ _ _ _ rfl hb (by omega)
     exact SegA.app st (((ih _ _ _ _ rfl hb (by omega)).1 trivial).app ((ih (.postL b.1) _ _ _ rfl h b2).1 trivial))
  | postL a =>
   refine ⟨fun hit=>?_,fun h=>by cases h⟩
   simp only [pe] at h
   obtain ⟨t,ht,h⟩:=z0Q h
   obtain ⟨t1,t2,_,_⟩:=z2F ht hp
   obtain ⟨st,sq,_,_⟩:=z3Q ht hp
   have go:∀ (c:UInt8) (y:Ex),Itm [c]→(t.1==[c])=true→pe n (.postL y) s (t.2+1)=.ok x→SegA s p x.2:=by
    intro c y hc e h
    have e:t.1=[c]:=by simpa using e
    rw [e] at sq t2
    simp only [List.length_cons,List.length_nil] at t2
    exact SegA.app st (SegA.app (SegA.tok sq hc) ((ih _ _ _ _ rfl h (by omega)).1 trivial))
   split at h
   ·rename_i e;exact go _ _ (i1 (by decide)) e h
   ·split at h
    ·rename_i e;exact go _ _ (i1 (by decide)) e h
    ·split at h
     ·rename_i e;exact go _ _ (i1 (by decide)) e h
     ·injection h with h;subst h;exact st
  | atom =>
   refine ⟨fun hit=>?_,fun h=>by cases h⟩
   simp only [pe] at h
   obtain ⟨t,ht,h⟩:=z0Q h
   obtain ⟨t1,t2,_,_⟩:=z2F ht hp
   obtain ⟨st,sq,_,htk⟩:=z3Q ht hp
   split at h
   ·cases h
   rename_i hb
   have hb:bgn t.1=true:=by simpa using hb
   by_cases h91:t.1=[91]
   ·rw [h91] at h sq t2 htk
    simp only [List.length_cons,List.length_nil] at t2
    obtain ⟨a,ha,h⟩:=z0Q h
    obtain ⟨a1,a2,a3,a4⟩:=pe_ok _ _ _ _ _ rfl ha (by omega)
    have a4:=a4 rfl
    obtain ⟨ti,gi,li,_⟩:=(ih _ _ _ _ rfl ha (by omega)).2 rfl
    obtain ⟨y,hy,h⟩:=z0Q h
    obtain ⟨_,sy⟩:=tak_seg hy a2
    split at h
    ·rename_i hy1
     obtain ⟨tj,q,gj,lj,gk,_,hq⟩:=sy hy1
     injection h with h;subst h
     refine SegA.app st ⟨[[91]]++(ti++(tj++[[93]])),sq.app (gi.app (gj.app gk)),fun d=>?_⟩
     refine .opn ?_ ((li d).app ((lj (d+1)).app (.cls (.nil d))))
     have hne:ti.flatten≠[]:=by
      intro e
      unfold Seg at gi
      rw [e] at gi
      have:=congrArg List.length gi
      simp only [List.nil_append,List.length_drop] at this
      omega
     cases hti:ti.flatten with
     | nil=>exact absurd hti hne
     | cons c r =>
      refine ⟨c,r++(tj++[[93]]).flatten,by show (ti++(tj++[[93]])).flatten=_;rw [List.flatten_append,hti];rfl,?_⟩
      rcases tok_cases htk with h | h | h | h | h | h
      ·cases h
      ·cases h;rename_i h3 _ _ _ _;exact absurd rfl h3
      ·cases h
      ·cases h
      ·have h2:=h.2
       rw [List.drop_drop] at h2
       unfold Seg at gi
       rw [gi,hti] at h2
       exact h2
      ·cases h
    ·cases h
   ·have hI:Itm t.1:=by
     rcases tok_cases htk with h | h | h | h | h | h
     ·rw [h] at hb;cases hb
     ·exact h
     ·rw [h] at hb;cases hb
     ·rw [h] at hb;cases hb
     ·exact absurd h.1 h91
     ·rw [h] at hb;cases hb
    have done:∀ k,k=t.1.length→SegA s p (t.2+k):=fun k hk=>by rw [hk];exact SegA.app st (SegA.tok sq hI)
    split at h
    ·rename_i e;injection h with h;subst h;exact done _ (z1X e).symm
    ·split at h
     ·rename_i e;injection h with h;subst h;exact done _ (z1X e).symm
     ·split at h
      ·rename_i e;injection h with h;subst h;exact done _ (z1X e).symm
      ·split at h
       ·rename_i e;exact absurd (by simpa using e) h91
       ·split at h
        ·injection h with h;subst h;exact done _ rfl
        ·split at h
         ·injection h with h;subst h;exact done _ rfl
         ·injection h with h;subst h;exact done _ rfl
theorem ang_index {w r:Bt} (h:∀ x∈w,x≠62∧x≠32):Lib.indexByte (60::(w++62::r)) 62=(w.length+1:Nat):=by
 refine index_first ?_ ?_
 ·rw [List.getElem?_cons_succ,List.getElem?_append_right (Nat.le_refl _),Nat.sub_self];rfl
 ·intro k hk
  cases k with
  | zero=>simp
  | succ k =>
   rw [List.getElem?_cons_succ,List.getElem?_append_left (by omega),List.getElem?_eq_getElem (by omega)]
   intro e
   injection e with e
   exact (h _ (List.getElem_mem _)).1 e
theorem ang_toGt {w r:Bt} (h:∀ x∈w,x≠62∧x≠32):toGt (60::(w++62::r))=w.length+1:=by
 have e:∀ w:Bt,(∀ x∈w,x≠62∧x≠32)→toGt (w++62::r)=w.length:=by
  intro w
  induction w with
  | nil=>intro _;simp [toGt]
  | cons c w ih =>
   intro h
   have hc:=(h c (by simp)).1
   have:=ih fun x hx=>h x (by simp [hx])
   unfold toGt at this ⊢
   rw [List.cons_append,List.takeWhile_cons,if_pos (by simpa using hc),List.length_cons,this];rfl
 have:=e w h
 unfold toGt at this ⊢
 rw [List.takeWhile_cons,if_pos (by decide),List.length_cons,this]
theorem ang_skip {w r:Bt} (h:∀ x∈w,x≠62∧x≠32):skipGt (60::(w++62::r))=w.length+1:=by
 have e:∀ w:Bt,(∀ x∈w,x≠62∧x≠32)→skipGt (w++62::r)=w.length:=by
  intro w
  induction w with
  | nil=>intro _;cases r<;>rfl
  | cons c w ih =>
   intro h
   have hc:=(h c (by simp)).1
   have i:=ih fun x hx=>h x (by simp [hx])
   cases hw:w++62::r with
   | nil=>exact absurd hw (by simp)
   | cons a t =>
    rw [List.cons_append,hw]
    rw [hw] at i
    unfold skipGt
    rw [if_neg (by simpa using hc),i];rfl
 have e:=e w h
 cases hw:w++62::r with
 | nil=>exact absurd hw (by simp)
 | cons a t =>
  rw [hw] at e
  unfold skipGt
  rw [if_neg (by decide),e]
theorem ang_drop {w r:Bt}:(60::(w++62::r)).drop (w.length+1+1)=r:=by
 have:(60::(w++62::r))=(60::(w++[62]))++r:=by simp
 rw [this,List.drop_append_of_le_length (by simp),List.drop_of_length_le (by simp)];rfl
theorem bareP_item {t r:Bt} {n:Nat} {d:Int} (h:Itm t) (hn:(t++r).length<n):∃ m,r.length<m∧bareP n d (t++r)=bareP m d r:=by
 cases n with
 | zero=>omega
 | succ n =>
 cases h with
 | one c h1 h2 h3 h4 h5 h6 h7 =>
  refine ⟨n,by simp at hn;omega,?_⟩
  simp [bareP,h1,h2,h3,h4,h5]
 | esc c h=>exact ⟨n,by simp at hn;omega,by simp [bareP]⟩
 | ang w h =>
  refine ⟨n,by simp at hn;omega,?_⟩
  have e:60::(w++[62])++r=60::(w++62::r):=by simp
  rw [e]
  simp only [bareP]
  rw [if_neg (by decide),if_pos (by decide),ang_index h,Int.toNat_natCast,ang_drop]
 | none =>
  cases n with
  | zero=>simp at hn
  | succ n=>exact ⟨n,by simp at hn;omega,by simp [bareP]⟩
theorem bareF_item {t r:Bt} {n:Nat} {d:Int} (h:Itm t) (hn:(t++r).length<n):∃ m,r.length<m∧bareF n d (t++r)=bareF m d r:=by
 cases n with
 | zero=>omega
 | succ n =>
 cases h with
 | one c h1 h2 h3 h4 h5 h6 h7 =>
  refine ⟨n,by simp at hn;omega,?_⟩
  simp [bareF,h1,h2,h3,h4,h5]
 | esc c h=>exact ⟨n,by simp at hn;omega,by simp [bareF]⟩
 | ang w h =>
  refine ⟨n,by simp at hn;omega,?_⟩
  have e:60::(w++[62])++r=60::(w++62::r):=by simp
  rw [e]
  simp only [bareF]
  rw [if_neg (by decide),if_pos (by decide),ang_toGt h,ang_drop]
 | none =>
  cases n with
  | zero=>simp at hn
  | succ n=>exact ⟨n,by simp at hn;omega,by simp [bareF]⟩
theorem depF_item {t r:Bt} {n:Nat} {d:Int} (h:Itm t) (hn:(t++r).length<n):∃ m,r.length<m∧depF n d (t++r)=depF m d r:=by
 cases n with
 | zero=>omega
 | succ n =>
 cases h with
 | one c h1 h2 h3 h4 h5 h6 h7 =>
  refine ⟨n,by simp at hn;omega,?_⟩
  simp [depF,h1,h2,h3,h4]
 | esc c h=>exact ⟨n,by simp at hn;omega,by simp [depF]⟩
 | ang w h =>
  refine ⟨n,by simp at hn;omega,?_⟩
  have e:60::(w++[62])++r=60::(w++62::r):=by simp
  rw [e]
  simp only [depF]
  rw [if_neg (by decide),if_pos (by decide),ang_toGt h,ang_drop]
 | none=>exact ⟨n,by simp at hn;omega,by simp [depF]⟩
theorem fuel_pos {n k:Nat} (h:k<n):∃ m,n=m+1∧k≤m:=⟨n-1,by omega,by omega⟩
theorem bareP_lin {a b:Nat} {ts:List Bt} (h:Lin a ts b):∀ {r:Bt} {n:Nat},(ts.flatten++r).length<n→∃ m,r.length<m∧bareP n a (ts.flatten++r)=bareP m b r:=by
 induction h with
 | nil d=>intro r n hn;exact ⟨n,by simpa using hn,rfl⟩
 | @item d e t ts hi _ ih =>
  intro r n hn
  rw [List.flatten_cons,List.append_assoc] at hn ⊢
  obtain ⟨m,h1,h2⟩:=bareP_item (d:=d) hi hn
  obtain ⟨m2,h3,h4⟩:=ih h1
  exact ⟨m2,h3,by rw [h2,h4]⟩
 | @free d e t ts hi _ ih =>
  intro r n hn
  rw [List.flatten_cons,List.append_assoc] at hn ⊢
  obtain ⟨n,rfl,hn⟩:=fuel_pos hn
  have hd:(((d+1:Nat):Int)==0)=false:=by rw [beq_eq_false_iff_ne];omega
  rcases hi with rfl | rfl
  ·obtain ⟨m2,h3,h4⟩:=ih (r:=r) (n:=n) (by simp at hn ⊢;omega)
   exact ⟨m2,h3,by rw [←h4];simp [bareP]⟩
  ·cases n with
   | zero=>simp at hn
   | succ n =>
    obtain ⟨m2,h3,h4⟩:=ih (r:=r) (n:=n) (by simp at hn ⊢;omega)
    refine ⟨m2,h3,?_⟩
    rw [←h4]
    simp only [List.cons_append,List.nil_append,bareP,hd]
    simp
 | @opn d e ts hi _ ih =>
  intro r n hn
  rw [List.flatten_cons,List.append_assoc] at hn ⊢
  obtain ⟨n,rfl,hn⟩:=fuel_pos hn
  obtain ⟨m2,h3,h4⟩:=ih (r:=r) (n:=n) (by simp at hn ⊢;omega)
  refine ⟨m2,h3,?_⟩
  rw [←h4]
  simp [bareP]
 | @cls d e ts _ ih =>
  intro r n hn
  rw [List.flatten_cons,List.append_assoc] at hn ⊢
  obtain ⟨n,rfl,hn⟩:=fuel_pos hn
  obtain ⟨m2,h3,h4⟩:=ih (r:=r) (n:=n) (by simp at hn ⊢;omega)
  refine ⟨m2,h3,?_⟩
  rw [←h4]
  have:((d+1:Nat):Int)-1=d:=by omega
  simp only [List.cons_append,List.nil_append,bareP,this]
  simp
theorem bareF_lin {a b:Nat} {ts:List Bt} (h:Lin a ts b):∀ {r:Bt} {n:Nat},(ts.flatten++r).length<n→∃ m,r.length<m∧bareF n a (ts.flatten++r)=bareF m b r:=by
 induction h with
 | nil d=>intro r n hn;exact ⟨n,by simpa using hn,rfl⟩
 | @item d e t ts hi _ ih =>
  intro r n hn
  rw [List.flatten_cons,List.append_assoc] at hn ⊢
  obtain ⟨m,h1,h2⟩:=bareF_item (d:=d) hi hn
  obtain ⟨m2,h3,h4⟩:=ih h1
  exact ⟨m2,h3,by rw [h2,h4]⟩
 | @free d e t ts hi _ ih =>
  intro r n hn
  rw [List.flatten_cons,List.append_assoc] at hn ⊢
  obtain ⟨n,rfl,hn⟩:=fuel_pos hn
  have hd:(((d+1:Nat):Int)==0)=false:=by rw [beq_eq_false_iff_ne];omega
  rcases hi with rfl | rfl
  ·obtain ⟨m2,h3,h4⟩:=ih (r:=r) (n:=n) (by simp at hn ⊢;omega)
   exact ⟨m2,h3,by rw [←h4];simp [bareF]⟩
  ·cases n with
   | zero=>simp at hn
   | succ n =>
    obtain ⟨m2,h3,h4⟩:=ih (r:=r) (n:=n) (by simp at hn ⊢;omega)
    refine ⟨m2,h3,?_⟩
    rw [←h4]
    simp only [List.cons_append,List.nil_append,bareF,hd]
    simp
 | @opn d e ts hi _ ih =>
  intro r n hn
  rw [List.flatten_cons,List.append_assoc] at hn ⊢
  obtain ⟨n,rfl,hn⟩:=fuel_pos hn
  obtain ⟨m2,h3,h4⟩:=ih (r:=r) (n:=n) (by simp at hn ⊢;omega)
  refine ⟨m2,h3,?_⟩
  rw [←h4]
  simp [bareF]
 | @cls d e ts _ ih =>
  intro r n hn
  rw [List.flatten_cons,List.append_assoc] at hn ⊢
  obtain ⟨n,rfl,hn⟩:=fuel_pos hn
  obtain ⟨m2,h3,h4⟩:=ih (r:=r) (n:=n) (by simp at hn ⊢;omega)
  refine ⟨m2,h3,?_⟩
  rw [←h4]
  have:((d+1:Nat):Int)-1=d:=by omega
  simp only [List.cons_append,List.nil_append,bareF,this]
  simp
theorem bare_A {u:Bt} {ts:List Bt} (hu:u=ts.flatten) (h:LinA ts):bareP (u.length+1) 0 u=false∧bareR u=false:=by
 subst hu
 obtain ⟨m,_,h2⟩:=bareP_lin (h 0) (r:=[]) (n:=ts.flatten.length+1) (by simp)
 obtain ⟨m',_,h3⟩:=bareF_lin (h 0) (r:=[]) (n:=ts.flatten.length+1) (by simp)
 rw [List.append_nil] at h2 h3
 unfold bareR
 have e:((0:Nat):Int)=0:=rfl
 rw [e] at h2 h3
 rw [h2,h3,bareP_nil,bareF_nil]
 exact ⟨rfl,rfl⟩
theorem bare_O {u:Bt} {a b:List Bt} (hu:u=(a++[61,62]::b).flatten) (h:LinA a):bareP (u.length+1) 0 u=true∧bareR u=true:=by
 have hu:u=a.flatten++(61::62::b.flatten):=by rw [hu];simp
 rw [hu]
 obtain ⟨m,k1,h2⟩:=bareP_lin (h 0) (r:=61::62::b.flatten) (n:=(a.flatten++(61::62::b.flatten)).length+1) (by omega)
 obtain ⟨m',k2,h3⟩:=bareF_lin (h 0) (r:=61::62::b.flatten) (n:=(a.flatten++(61::62::b.flatten)).length+1) (by omega)
 unfold bareR
 have e:((0:Nat):Int)=0:=rfl
 rw [e] at h2 h3
 rw [h2,h3]
 cases m with
 | zero=>simp at k1
 | succ m =>
  cases m' with
  | zero=>simp at k2
  | succ m'=>exact ⟨by simp [bareP],by simp [bareF]⟩
theorem z3M {n:Nat} {g:UInt8} {s:Bt} {b:Nat} {d:Int} {i:Nat} {c:UInt8} {t:Bt} (h:s.drop i=c::t) (h1:c≠92) (h2:c≠60) (h3:c≠91) (h4:c≠93) (h5:c≠g∨d≠0) :
  cutF (n+1) g s b d i=cutF n g s b d (i+1):=by
 simp only [cutF,h]
 rw [if_neg (by simpa using h1),if_neg (by simpa using h2),if_neg (by simpa using h3),if_neg (by simpa using h4),if_neg]
 rcases h5 with h5 | h5
 ·simp [h5]
 ·simp [h5]
theorem cutF_item {t r s:Bt} {n i b:Nat} {d:Int} {g:UInt8} (hg:g=59∨g=95) (h:Itm t) (hs:s.drop i=t++r) (hn:(t++r).length<n):∃ m,r.length<m∧cutF n g s b d i=cutF m g s b d (i+t.length):=by
 cases n with
 | zero=>omega
 | succ n =>
 cases h with
 | one c h1 h2 h3 h4 h5 h6 h7 =>
  refine ⟨n,by simp at hn;omega,z3M hs h1 h2 h3 h4 (.inl ?_)⟩
  rcases hg with rfl | rfl
  ·exact h7
  ·exact h6
 | esc c h=>exact ⟨n,by simp at hn;omega,by simp [cutF,hs]⟩
 | ang w h =>
  refine ⟨n,by simp at hn;omega,?_⟩
  have e:60::(w++[62])++r=60::(w++62::r):=by simp
  rw [e] at hs
  simp only [cutF,hs]
  rw [if_neg (by decide),if_pos (by decide),ang_skip h]
  congr 1
  simp;omega
 | none =>
  cases n with
  | zero=>simp at hn
  | succ n =>
   refine ⟨n,by simp at hn;omega,?_⟩
   have h2:s.drop (i+1)=93::r:=by rw [←List.drop_drop,hs];rfl
   simp [cutF,hs,h2]
theorem cutF_lin {g:UInt8} {s:Bt} {b:Nat} (hg:g=59∨g=95) {d e:Nat} {ts:List Bt} (h:Lin d ts e):∀ {r:Bt} {n i:Nat},s.drop i=ts.flatten++r→(ts.flatten++r).length<n→∃ m,r.length<m∧cutF n g s b d i=cutF m g s b e (i+ts.flatten.length):=by
 induction h with
 | nil d=>intro r n i hs hn;exact ⟨n,by simpa using hn,by simp⟩
 | @item d e t ts hi _ ih =>
  intro r n i hs hn
  rw [List.flatten_cons,List.append_assoc] at hs hn
  obtain ⟨m,h1,h2⟩:=cutF_item (d:=d) (b:=b) hg hi hs hn
  obtain ⟨m2,h3,h4⟩:=ih (r:=r) (n:=m) (i:=i+t.length) (by rw [←List.drop_drop,hs];simp) h1
  exact ⟨m2,h3,by rw [h2,h4,List.flatten_cons,List.length_append,Nat.add_assoc]⟩
 | @free d e t ts hi _ ih =>
  intro r n i hs hn
  rw [List.flatten_cons,List.append_assoc] at hs hn
  have hd:((d+1:Nat):Int)≠0:=by omega
  obtain ⟨n,rfl,hn⟩:=fuel_pos hn
  rcases hi with rfl | rfl
  ·obtain ⟨m2,h3,h4⟩:=ih (r:=r) (n:=n) (i:=i+1) (by rw [←List.drop_drop,hs];simp) (by simp at hn ⊢;omega)
   refine ⟨m2,h3,?_⟩
   rw [z3M hs (by decide) (by decide) (by decide) (by decide) (.inr hd),h4,List.flatten_cons,List.length_append,Nat.add_assoc];rfl
  ·cases n with
   | zero=>simp at hn
   | succ n =>
    obtain ⟨m2,h3,h4⟩:=ih (r:=r) (n:=n) (i:=i+2) (by rw [←List.drop_drop,hs];simp) (by simp at hn ⊢;omega)
    have hs2:s.drop (i+1)=62::(ts.flatten++r):=by rw [←List.drop_drop,hs];simp
    refine ⟨m2,h3,?_⟩
    rw [z3M hs (by decide) (by decide) (by decide) (by decide) (.inr hd),z3M hs2 (by decide) (by decide) (by decide) (by decide) (.inr hd),h4,List.flatten_cons,List.length_append,Nat.add_assoc];rfl
 | @opn d e ts hi _ ih =>
  intro r n i hs hn
  rw [List.flatten_cons,List.append_assoc] at hs hn
  obtain ⟨n,rfl,hn⟩:=fuel_pos hn
  obtain ⟨m2,h3,h4⟩:=ih (r:=r) (n:=n) (i:=i+1) (by rw [←List.drop_drop,hs];simp) (by simp at hn ⊢;omega)
  refine ⟨m2,h3,?_⟩
  rw [List.flatten_cons,List.length_append,←Nat.add_assoc]
  refine Eq.trans ?_ h4
  have hs:s.drop i=91::(ts.flatten++r):=hs
  simp only [cutF,hs]
  rfl
 | @cls d e ts _ ih =>
  intro r n i hs hn
  rw [List.flatten_cons,List.append_assoc] at hs hn
  obtain ⟨n,rfl,hn⟩:=fuel_pos hn
  obtain ⟨m2,h3,h4⟩:=ih (r:=r) (n:=n) (i:=i+1) (by rw [←List.drop_drop,hs];simp) (by simp at hn ⊢;omega)
  refine ⟨m2,h3,?_⟩
  rw [List.flatten_cons,List.length_append,←Nat.add_assoc]
  refine Eq.trans ?_ h4
  have hs:s.drop i=93::(ts.flatten++r):=hs
  have:((d+1:Nat):Int)-1=d:=by omega
  simp only [cutF,hs,this]
  rfl
abbrev Sd:=Option Bt
def tL:Sd→Bt
 | none=>[]
 | some u=>u++[32]
def tR:Sd→Bt
 | none=>[]
 | some u=>32::u
def plcT (p:Sd × Sd):Bt:=tL p.1++95::tR p.2
def plsT (l:List (Sd × Sd)):Bt:=Lib.join (l.map plcT) [32,59,32]
def Gd (u:Bt):Prop:=(exP u).2≠2∧triL (triR u)=u∧bareP (u.length+1) 0 u=false
def gdS:Sd→Prop
 | none=>True
 | some u=>Gd u
abbrev gdP (p:Sd × Sd):Prop:=gdS p.1∧gdS p.2
theorem tok_nil {r:Bt} (h:tok r=some []):r=[]:=by
 cases r with
 | nil=>rfl
 | cons c t =>
  unfold tok at h
  simp only at h
  split at h
  ·injection h with h;simp at h
  ·split at h
   ·injection h with h;simp at h
   ·split at h
    ·injection h with h;simp at h
    ·split at h
     ·injection h with h;simp at h
     ·cases h
theorem exP_len {u:Bt} (hl:u.length≤6000) (h:(exP u).2≠2):∃ e q,peA .only u 0=.ok (e,q)∧∃ k,tkn u q=.ok ([],k)∧((exP u)=if vexpr e != 0 then (Z0,vexpr e) else (e,0)):=by
 have hd:decide ((u.length:Int)>6000)=false:=by rw [decide_eq_false_iff_not];omega
 unfold exP at h ⊢
 rw [hd] at h ⊢
 simp only [Bool.false_eq_true,if_false] at h ⊢
 split at h
 ·rename_i e q he
  refine ⟨e,q,he,?_⟩
  split at h
  ·rename_i t k ht
   split at h
   ·rename_i hte
    have:t=[]:=by simpa using hte
    subst this
    rename_i ht _
    exact ⟨k,ht,by simp⟩
   ·exact absurd rfl h
  ·exact absurd rfl h
 ·exact absurd rfl h
theorem pe_all {u:Bt} {e:Ex} {q:Nat} {k:Nat} (h:peA .only u 0=.ok (e,q)) (ht:tkn u q=.ok ([],k)):∃ ts,u=ts.flatten∧(LinA ts∨∃ a b,ts=a++[61,62]::b∧LinA a):=by
 have h1:=pe_ok _ _ _ _ _ rfl h (Nat.zero_le _)
 obtain ⟨ts,h2,h3⟩:=(pe_lin _ _ _ _ _ rfl h (Nat.zero_le _)).2 rfl
 obtain ⟨⟨t2,h4,h5⟩,_,_,h6⟩:=z3Q ht h1.2.1
 have h7:=tok_nil h6
 have h8:=h2.app h4
 unfold Seg at h8
 rw [h7,List.append_nil,List.drop_zero] at h8
 refine ⟨_,h8,?_⟩
 rcases h3.2 with h | ⟨a,b,rfl,h⟩
 ·exact .inl (h.app h5)
 ·exact .inr ⟨a,b++t2,by simp,h⟩
theorem Gd.items {u:Bt} (hl:u.length≤6000) (h:Gd u):∃ ts,u=ts.flatten∧LinA ts:=by
 obtain ⟨e,q,h1,k,h2,_⟩:=exP_len hl h.1
 obtain ⟨ts,h3,h4⟩:=pe_all h1 h2
 rcases h4 with h4 | ⟨a,b,rfl,h4⟩
 ·exact ⟨ts,h3,h4⟩
 ·have:=(bare_O h3 h4).1
  rw [h.2.2] at this;cases this
theorem bare_same {u:Bt} (hl:u.length≤6000) (h:(exP u).2≠2):bareR u=bareP (u.length+1) 0 u:=by
 obtain ⟨e,q,h1,k,h2,_⟩:=exP_len hl h
 obtain ⟨ts,h3,h4⟩:=pe_all h1 h2
 rcases h4 with h4 | ⟨a,b,rfl,h4⟩
 ·have:=bare_A h3 h4;rw [this.1,this.2]
 ·have:=bare_O h3 h4;rw [this.1,this.2]
theorem exP_nil:(exP []).2=2:=by
 have:peA .only [] 0=.bad:=by rfl
 unfold exP
 rw [this];rfl
theorem triL_len (s:Bt):(triL s).length≤s.length:=by
 induction s with
 | nil=>simp [triL]
 | cons c t ih=>unfold triL;split<;>simp;omega
theorem snoc_of {s:Bt} (h:s≠[]):∃ t c,s=t++[c]:=⟨s.dropLast,s.getLast h,(List.dropLast_concat_getLast h).symm⟩
theorem tri_iff {u:Bt} (h:u≠[]):triL (triR u)=u↔u.head?≠some 32∧u.getLast?≠some 32:=by
 obtain ⟨t,c,rfl⟩:=snoc_of h
 rw [triR_app]
 constructor
 ·intro e
  have e1:=triL_len (if c==32 then triR t else t++[c])
  rw [e] at e1
  by_cases hc:c=32
  ·subst hc
   have:=triR_len t
   simp at e1;omega
  ·rw [if_neg (by simpa using hc)] at e
   refine ⟨?_,by simpa using hc⟩
   intro hh
   cases hx:t++[c] with
   | nil=>simp at hx
   | cons a r =>
    rw [hx] at hh e
    have:a=32:=by simpa using hh
    subst this
    have:=triL_len r
    rw [triL,if_pos (by decide)] at e
    have:=congrArg List.length e
    simp at this;omega
 ·rintro ⟨h1,h2⟩
  have hc:c≠32:=by simpa using h2
  rw [if_neg (by simpa using hc)]
  cases hx:t++[c] with
  | nil=>simp at hx
  | cons a r =>
   rw [hx] at h1
   have:a≠32:=by simpa using h1
   rw [triL,if_neg (by simpa using this)]
theorem gd_iff {u:Bt} (hl:u.length≤6000):Gd u↔u≠[]∧u.head?≠some 32∧u.getLast?≠some 32∧(exP u).2≠2∧bareR u=false:=by
 constructor
 ·rintro ⟨h1,h2,h3⟩
  have hne:u≠[]:=by rintro rfl;exact h1 exP_nil
  obtain ⟨h4,h5⟩:=(tri_iff hne).1 h2
  exact ⟨hne,h4,h5,h1,by rw [bare_same hl h1,h3]⟩
 ·rintro ⟨h0,h1,h2,h3,h4⟩
  exact ⟨h3,(tri_iff h0).2 ⟨h1,h2⟩,by rw [←bare_same hl h3,h4]⟩
theorem i32:Itm [32]:=i1 (by decide)
theorem tL_lin {a:Sd} (hl:(tL a).length≤6000) (h:gdS a):∃ ts,tL a=ts.flatten∧LinA ts:=by
 cases a with
 | none=>exact ⟨[],rfl,.nil⟩
 | some u =>
  obtain ⟨ts,h1,h2⟩:=Gd.items (u:=u) (by simp [tL] at hl;omega) h
  exact ⟨ts++[[32]],by simp [tL,h1],h2.app (.one i32)⟩
theorem tR_lin {a:Sd} (hl:(tR a).length≤6000) (h:gdS a):∃ ts,tR a=ts.flatten∧LinA ts:=by
 cases a with
 | none=>exact ⟨[],rfl,.nil⟩
 | some u =>
  obtain ⟨ts,h1,h2⟩:=Gd.items (u:=u) (by simp [tR] at hl;omega) h
  exact ⟨[32]::ts,by simp [tR,h1],.item i32 h2⟩
theorem tL_end (a:Sd):tL a=[]∨(tL a).getLast? =some 32:=by
 cases a with
 | none=>exact .inl rfl
 | some u=>exact .inr (by simp [tL])
theorem tR_begin (a:Sd):tR a=[]∨(tR a).head? =some 32:=by
 cases a with
 | none=>exact .inl rfl
 | some u=>exact .inr (by simp [tR])
theorem cut_here {n b:Nat} {g:UInt8} {s x y:Bt} (hg:g=59∨g=95) (hs:s=x++g::y) (hx:x=[]∨x.getLast? =some 32) (hy:y=[]∨y.head? =some 32) :
  cutF (n+1) g s b 0 x.length=x.drop b::cutF n g s (x.length+1) 0 (x.length+1):=by
 have hd:s.drop x.length=g::y:=by rw [hs];simp
 have h1:(x.length==0||s.getD (x.length-1) 0==32)=true:=by
  rcases hx with rfl | hx
  ·rfl
  ·have hne:x≠[]:=by rintro rfl;simp at hx
   obtain ⟨t,c,rfl⟩:=snoc_of hne
   have:c=32:=by simpa using hx
   subst this
   rw [hs];simp
 have h2:(x.length+1==s.length||s.getD (x.length+1) 0==32)=true:=by
  rcases hy with rfl | hy
  ·rw [hs];simp
  ·cases y with
   | nil=>simp at hy
   | cons c y =>
    have:c=32:=by simpa using hy
    subst this
    rw [hs];simp
 have ht:s.take x.length=x:=by rw [hs];simp
 simp only [cutF,hd]
 have n1:(g==92)=false:=by rcases hg with rfl | rfl<;>rfl
 have n2:(g==60)=false:=by rcases hg with rfl | rfl<;>rfl
 have n3:(g==91)=false:=by rcases hg with rfl | rfl<;>rfl
 have n4:(g==93)=false:=by rcases hg with rfl | rfl<;>rfl
 rw [n1,n2,n3,n4,h1,h2,ht]
 simp
theorem cut_end {n b i:Nat} {g:UInt8} {s:Bt} {ts:List Bt} (hg:g=59∨g=95) (hs:s.drop i=ts.flatten) (h:LinA ts) (hn:ts.flatten.length<n):cutF n g s b 0 i=[s.drop b]:=by
 obtain ⟨m,h1,h2⟩:=cutF_lin (s:=s) (b:=b) hg (h 0) (r:=[]) (n:=n) (i:=i) (by rw [hs];simp) (by simpa using hn)
 have e:((0:Nat):Int)=0:=rfl
 rw [e] at h2
 rw [h2]
 cases m with
 | zero=>simp at h1
 | succ m =>
  have:s.drop (i+ts.flatten.length)=[]:=by rw [←List.drop_drop,hs];simp
  simp only [cutF,this]
theorem plcT_len (p:Sd × Sd):(plcT p).length=(tL p.1).length+1+(tR p.2).length:=by simp [plcT];omega
theorem cutS_pl {p:Sd × Sd} (h:gdP p) (hl:(plcT p).length≤6000):cutS (plcT p) 95=[tL p.1,tR p.2]:=by
 have hlen:=plcT_len p
 obtain ⟨ta,a1,a2⟩:=tL_lin (a:=p.1) (by omega) h.1
 obtain ⟨tb,b1,b2⟩:=tR_lin (a:=p.2) (by omega) h.2
 unfold cutS
 have hs:plcT p=ta.flatten++(95::tR p.2):=by rw [←a1];rfl
 obtain ⟨m,h1,h2⟩:=cutF_lin (s:=plcT p) (b:=0) (g:=95) (.inr rfl) (a2 0) (r:=95::tR p.2) (n:=(plcT p).length+1) (i:=0) (by rw [List.drop_zero,hs]) (by rw [←hs];omega)
 have e:((0:Nat):Int)=0:=rfl
 rw [e] at h2
 rw [h2,Nat.zero_add,←a1]
 cases m with
 | zero=>simp at h1
 | succ m =>
  rw [cut_here (.inr rfl) (s:=plcT p) (x:=tL p.1) (y:=tR p.2) rfl (tL_end _) (tR_begin _),List.drop_zero]
  have hd:(plcT p).drop ((tL p.1).length+1)=tR p.2:=by
   rw [←List.drop_drop];simp [plcT]
  rw [cut_end (.inr rfl) (by rw [hd,b1]) b2 (by rw [←b1];simp at h1;omega),hd]
def sdE:Sd→Ex × Bool
 | none=>(lf 2,false)
 | some u=>if (exP u).2 != 0 then (tgr 12,true) else ((exP u).1,false)
def mP (p:Sd × Sd):Pl:=((sdE p.1).1,(sdE p.2).1)
def gP (p:Sd × Sd):Bool:=(sdE p.1).2||(sdE p.2).2
theorem sideP_L {u:Bt} (h:Gd u):sideP 0 (u++[32])=some (sdE (some u)):=by
 unfold sideP sdE
 simp only [beq_self_eq_true,if_true]
 have:(u++[32]).take ((u++[32]).length-1)=u:=by simp
 rw [this]
 obtain ⟨h1,h2,h3⟩:=h
 have e1:((exP u).2==2)=false:=by simpa using h1
 rw [e1,h2,h3]
 simp only [bne_self_eq_false,Bool.or_self,Bool.false_eq_true,if_false]
 split<;>rfl
theorem sideP_R {u:Bt} (h:Gd u):sideP 1 (32::u)=some (sdE (some u)):=by
 unfold sideP sdE
 have:(32::u).drop 1=u:=rfl
 have e0:((1:Nat)==0)=false:=rfl
 simp only [e0,Bool.false_eq_true,if_false]
 rw [this]
 obtain ⟨h1,h2,h3⟩:=h
 have e1:((exP u).2==2)=false:=by simpa using h1
 rw [e1,h2,h3]
 simp only [bne_self_eq_false,Bool.or_self,Bool.false_eq_true,if_false]
 split<;>rfl
theorem sides_pl {p:Sd × Sd} (h:gdP p):sidesF [tL p.1,tR p.2] 2=some ([(sdE p.1).1,(sdE p.2).1],gP p):=by
 obtain ⟨a,b⟩:=p
 have hA:sidesF [tL a,tR b] 1=some ([(sdE a).1,lf 2],(sdE a).2):=by
  simp only [sidesF,List.getD_cons_zero]
  cases a with
  | none=>simp [tL,sdE]
  | some u =>
   have:(tL (some u)==[])=false:=by simp [tL]
   rw [this]
   simp only [Bool.false_eq_true,if_false]
   show (match sideP 0 (u++[32]) with | none=>none | some (x,h)=>some (([lf 2,lf 2]:List Ex).set 0 x,false||h))=_
   rw [sideP_L h.1]
   simp
 show (match sidesF [tL a,tR b] 1 with | none=>none | some (E,g)=>if ([tL a,tR b]:List Bt).getD 1 []==[] then some (E,g) else match sideP 1 (([tL a,tR b]:List Bt).getD 1 []) with | none=>none | some (x,h)=>some (E.set 1 x,g||h))=_
 rw [hA]
 simp only [List.getD_cons_succ,List.getD_cons_zero,gP]
 cases b with
 | none=>simp [tR,sdE]
 | some u =>
  have:(tR (some u)==[])=false:=by simp [tR]
  rw [this]
  simp only [Bool.false_eq_true,if_false]
  show (match sideP 1 (32::u) with | none=>none | some (x,h)=>some (([(sdE a).1,lf 2]:List Ex).set 1 x,(sdE a).2||h))=_
  rw [sideP_R h.2]
  simp
theorem oneP_pl {p:Sd × Sd} (h:gdP p) (hl:(plcT p).length≤6000):oneP (plcT p)=some ([(sdE p.1).1,(sdE p.2).1],gP p):=by
 unfold oneP
 rw [cutS_pl h hl]
 exact sides_pl h
def segs (x:Bt):List (Sd × Sd)→List Bt
 | []=>[]
 | [p]=>[x++plcT p]
 | p::q::l=>(x++plcT p++[32])::segs [32] (q::l)
theorem segs_len (x:Bt):∀ l:List (Sd × Sd),(segs x l).length=l.length
 | []=>rfl
 | [p]=>rfl
 | p::q::l=>by simp only [segs,List.length_cons,segs_len [32] (q::l)]
theorem segs_at:∀ (l:List (Sd × Sd)) (x:Bt) (k:Nat) (p:Sd × Sd),l[k]? =some p→(segs x l).getD k []=(if k=0 then x else [32])++plcT p++(if k+1<l.length then [32] else [])
 | [],x,k,p,h=>by simp at h
 | [q],x,0,p,h=>by simp at h;subst h;simp [segs]
 | [q],x,k+1,p,h=>by simp at h
 | q::r::l,x,0,p,h=>by simp at h;subst h;simp [segs]
 | q::r::l,x,k+1,p,h=>by
  have ih:=segs_at (r::l) [32] k p (by simpa using h)
  simp only [segs,List.getD_cons_succ,ih,List.length_cons]
  rw [if_neg (by omega:¬ k+1=0)]
  have e:(if k=0 then ([32]:Bt) else [32])=[32]:=by split<;>rfl
  rw [e]
  by_cases hk:k+1<l.length+1
  ·rw [if_pos hk,if_pos (by omega)]
  ·rw [if_neg hk,if_neg (by omega)]
theorem plsT_one (p:Sd × Sd):plsT [p]=plcT p:=by simp [plsT,Lib.join_one]
theorem plsT_cons (p q:Sd × Sd) (l:List (Sd × Sd)):plsT (p::q::l)=plcT p++[32,59,32]++plsT (q::l):=by
 unfold plsT;rw [List.map_cons,List.map_cons,z1R]
theorem cutF_pl {n b i:Nat} {s r:Bt} {p:Sd × Sd} (h:gdP p) (hl:(plcT p).length≤6000) (hs:s.drop i=plcT p++r) (hn:(plcT p++r).length<n) :
  ∃ m,r.length<m∧cutF n 59 s b 0 i=cutF m 59 s b 0 (i+(plcT p).length):=by
 have hlen:=plcT_len p
 obtain ⟨ta,a1,a2⟩:=tL_lin (a:=p.1) (by omega) h.1
 obtain ⟨tb,b1,b2⟩:=tR_lin (a:=p.2) (by omega) h.2
 have e:((0:Nat):Int)=0:=rfl
 have hp:plcT p++r=ta.flatten++(95::(tb.flatten++r)):=by rw [←a1,←b1];simp [plcT]
 rw [hp] at hs hn
 obtain ⟨m,h1,h2⟩:=cutF_lin (s:=s) (b:=b) (g:=59) (.inl rfl) (a2 0) hs hn
 rw [e] at h2
 obtain ⟨m,rfl,h1⟩:=fuel_pos h1
 have hs2:s.drop (i+ta.flatten.length)=95::(tb.flatten++r):=by rw [←List.drop_drop,hs];simp
 have hs3:s.drop (i+ta.flatten.length+1)=tb.flatten++r:=by rw [←List.drop_drop,hs2];rfl
 obtain ⟨m2,h3,h4⟩:=cutF_lin (s:=s) (b:=b) (g:=59) (.inl rfl) (b2 0) hs3 (n:=m) (by simp at h1;simp;omega)
 rw [e] at h4
 refine ⟨m2,h3,?_⟩
 rw [h2,z3M hs2 (by decide) (by decide) (by decide) (by decide) (.inl (by decide)),h4,hlen,a1,b1]
 congr 1;omega
theorem z3C {a b:Bt} {i:Nat} (h:i=a.length):(a++b).drop i=b:=by subst h;simp
theorem cutF_pls:∀ (l:List (Sd × Sd)) (n b:Nat) (s s0 x:Bt),l≠[]→(∀ p∈l,gdP p)→(plsT l).length≤6000→s=s0++x++plsT l→b=s0.length→(plsT l).length<n →
  cutF n 59 s b 0 (b+x.length)=segs x l
 | [],_,_,_,_,_,h,_,_,_,_,_=>absurd rfl h
 | [p],n,b,s,s0,x,_,hg,hl,hs,hb,hn=>by
  rw [plsT_one] at hl hs hn
  have hd:s.drop (b+x.length)=plcT p++[]:=by rw [hs,List.append_nil];exact z3C (by simp [hb])
  obtain ⟨m,h1,h2⟩:=cutF_pl (b:=b) (hg p (by simp)) hl hd (n:=n) (by simpa using hn)
  obtain ⟨m,rfl,_⟩:=fuel_pos h1
  have hd2:s.drop (b+x.length+(plcT p).length)=[]:=by rw [←List.drop_drop,hd];simp
  rw [h2]
  simp only [cutF,hd2,segs]
  rw [hs,List.append_assoc,z3C hb]
 | p::q::l,n,b,s,s0,x,_,hg,hl,hs,hb,hn=>by
  rw [plsT_cons] at hl hs hn
  have hlp:(plcT p).length≤6000:=by simp at hl;omega
  have hd:s.drop (b+x.length)=plcT p++(32::59::32::plsT (q::l)):=by
   rw [hs,z3C (by simp [hb])];simp
  obtain ⟨m,h1,h2⟩:=cutF_pl (b:=b) (hg p (by simp)) hlp hd (n:=n) (by simp at hn ⊢;omega)
  obtain ⟨m,rfl,h1⟩:=fuel_pos h1
  have hd2:s.drop (b+x.length+(plcT p).length)=32::59::32::plsT (q::l):=by rw [←List.drop_drop,hd];simp
  obtain ⟨m,rfl⟩:∃ k,m=k+1:=⟨m-1,by simp at h1;omega⟩
  rw [h2,z3M hd2 (by decide) (by decide) (by decide) (by decide) (.inl (by decide))]
  have hsx:s=(s0++x++plcT p++[32])++59::(32::plsT (q::l)):=by rw [hs];simp
  have hxl:b+x.length+(plcT p).length+1=(s0++x++plcT p++[32]).length:=by simp [hb];omega
  rw [hxl,cut_here (.inl rfl) hsx (.inr (by simp)) (.inr rfl)]
  have hfirst:(s0++x++plcT p++[32]).drop b=x++plcT p++[32]:=by
   rw [List.append_assoc,List.append_assoc,z3C hb,List.append_assoc]
  rw [hfirst]
  obtain ⟨m,rfl⟩:∃ k,m=k+1:=⟨m-1,by simp at h1;omega⟩
  have hd3:s.drop ((s0++x++plcT p++[32]).length+1)=32::plsT (q::l):=by
   rw [←List.drop_drop,hsx,z3C rfl];rfl
  rw [z3M hd3 (by decide) (by decide) (by decide) (by decide) (.inl (by decide))]
  have ih:=cutF_pls (q::l) m ((s0++x++plcT p++[32]).length+1) s (s0++x++plcT p++[32]++[59]) [32] (by simp) (fun p hp=>hg p (by simp at hp ⊢;exact .inr hp)) (by simp at hl;omega) (by rw [hsx];simp) (by simp<;>omega) (by simp at h1;omega)
  have e:(s0++x++plcT p++[32]).length+1+([32]:Bt).length=(s0++x++plcT p++[32]).length+1+1:=rfl
  rw [e] at ih
  rw [ih];rfl
theorem cutS_pls {l:List (Sd × Sd)} (h0:l≠[]) (hg:∀ p∈l,gdP p) (hl:(plsT l).length≤6000):cutS (plsT l) 59=segs [] l:=by
 unfold cutS
 exact cutF_pls l _ 0 _ [] [] h0 hg hl rfl rfl (by omega)
theorem trim_seg {k n:Nat} {t:Bt} (hk:k<n):trimP k n ((if k=0 then [] else [32])++t++(if k+1<n then [32] else []))=some t:=by
 unfold trimP
 by_cases h0:k=0
 ·subst h0
  simp only [Nat.lt_irrefl,decide_false,Bool.false_and,Bool.false_eq_true,if_false,if_true,List.nil_append]
  by_cases h1:0+1<n
  ·simp only [h1,decide_true,if_true]
   have e1:(t++[32]==[])=false:=by simp
   have e2:(t++[(32:UInt8)]).getD ((t++[(32:UInt8)]).length-1) 0=32:=by simp
   rw [e1,e2];simp
  ·simp [h1]
 ·have e0:decide (0<k)=true:=by simp;omega
  simp only [e0,Bool.true_and,h0,if_false]
  have e1:([32]++t++(if k+1<n then ([32]:Bt) else [])==[])=false:=by simp
  rw [e1]
  simp only [Bool.false_eq_true,if_false,if_true]
  by_cases h1:k+1<n
  ·simp only [h1,decide_true,if_true]
   have e2:([32]++t++[(32:UInt8)]).drop 1=t++[32]:=by simp
   rw [e2]
   have e3:(t++[32]==[])=false:=by simp
   have e4:(t++[(32:UInt8)]).getD ((t++[(32:UInt8)]).length-1) 0=32:=by simp
   rw [e3,e4];simp
  ·simp [h1]
theorem plcT_le {l:List (Sd × Sd)}:∀ {p},p∈l→(plcT p).length≤(plsT l).length:=by
 induction l with
 | nil=>intro p h;simp at h
 | cons q l ih =>
  intro p h
  cases l with
  | nil=>simp at h;subst h;rw [plsT_one];exact Nat.le_refl _
  | cons r l =>
   rw [plsT_cons]
   rcases List.mem_cons.1 h with rfl | h
   ·simp
   ·have:=ih h;simp;omega
theorem any_snoc {α:Type} (l:List α) (x:α) (f:α→Bool):(l++[x]).any f=(l.any f||f x):=by simp
theorem readP_pls {l:List (Sd × Sd)} (h0:l≠[]) (hg:∀ p∈l,gdP p) (hl:(plsT l).length≤6000):readP (plsT l)=some (l.map mP,l.any gP):=by
 unfold readP
 rw [cutS_pls h0 hg hl,segs_len]
 have hk:∀ k,k≤l.length→readI (segs [] l) k=some ((l.take k).map mP,(l.take k).any gP):=by
  intro k
  induction k with
  | zero=>intro _;rfl
  | succ k ih =>
   intro hk
   obtain ⟨p,hp⟩:∃ p,l[k]? =some p:=⟨_,List.getElem?_eq_getElem (by omega)⟩
   have hpm:=List.mem_of_getElem? hp
   simp only [readI]
   rw [ih (by omega),segs_at l [] k p hp,segs_len]
   simp only
   rw [trim_seg (by omega)]
   simp only
   rw [oneP_pl (hg p hpm) (Nat.le_trans (plcT_le hpm) hl)]
   simp only
   rw [List.take_add_one,hp,Option.toList_some,List.map_append,any_snoc]
   rfl
 rw [hk l.length (Nat.le_refl _),List.take_length]
inductive CutOK:List Bt→Prop
 | one (x:Bt):CutOK [x]
 | cons {x y:Bt} {r:List Bt} (h1:x=[]∨x.getLast? =some 32) (h2:y=[]∨y.head? =some 32) (h:CutOK (y::r)):CutOK (x::y::r)
theorem join_head {y:Bt} {r:List Bt} {g:UInt8} {t:Bt} (h:Lib.join (y::r) [g]=t) (hy:y≠[]):t.head? =y.head?:=by
 rw [Lib.join_cons] at h
 subst h
 cases y with
 | nil=>exact absurd rfl hy
 | cons c y=>rfl
theorem cut_sound {g:UInt8} {s:Bt}:∀ (n b:Nat) (d:Int) (i:Nat),b≤i→i≤s.length+1→s.length+1≤i+n→b≤s.length→Lib.join (cutF n g s b d i) [g]=s.drop b∧CutOK (cutF n g s b d i)
 | 0,b,d,i,_,_,_,_=>by simp only [cutF];exact ⟨Lib.join_one _ _,.one _⟩
 | n+1,b,d,i,hb,hi,hn,hbl=>by
  have ih:=cut_sound (g:=g) (s:=s) n
  simp only [cutF]
  split
  ·exact ⟨Lib.join_one _ _,.one _⟩
  ·rename_i c t hd
   obtain ⟨hg0,hlt,hdt⟩:=drop_cons_iff hd
   have over:∀ (d':Int) (j:Nat),i<j→Lib.join (cutF n g s b d' j) [g]=s.drop b∧CutOK (cutF n g s b d' j):=by
    intro d' j hj
    by_cases hjl:j≤s.length+1
    ·exact ih b d' j (by omega) hjl (by omega) hbl
    ·have:cutF n g s b d' j=[s.drop b]:=by
      cases n with
      | zero=>rfl
      | succ n=>simp only [cutF,List.drop_of_length_le (show s.length≤j by omega)]
     rw [this];exact ⟨Lib.join_one _ _,.one _⟩
   split
   ·exact over _ _ (by omega)
   ·split
    ·exact over _ _ (by omega)
    ·split
     ·exact over _ _ (by omega)
     ·split
      ·exact over _ _ (by omega)
      ·split
       ·rename_i hc
        simp only [Bool.and_eq_true,beq_iff_eq] at hc
        obtain ⟨⟨⟨hcg,_⟩,hbl2⟩,hbr⟩:=hc
        obtain ⟨j1,j2⟩:=ih (i+1) d (i+1) (Nat.le_refl _) (by omega) (by omega) (by omega)
        cases hr:cutF n g s (i+1) d (i+1) with
        | nil=>rw [hr] at j2;cases j2
        | cons y r =>
         rw [hr] at j1 j2
         refine ⟨?_,.cons ?_ ?_ j2⟩
         ·rw [z1R,j1]
          have e1:s.drop b=((s.take i).drop b)++s.drop i:=by
           conv=>lhs;rw [←List.take_append_drop i s,List.drop_append_of_le_length (by rw [List.length_take];omega)]
          rw [e1,hd,hcg,hdt];simp
         ·by_cases hbi:b=i
          ·left;rw [hbi];exact List.drop_of_length_le (by rw [List.length_take];omega)
          ·right
           have hi0:(i==0)=false:=by rw [beq_eq_false_iff_ne];omega
           rw [hi0,Bool.false_or,beq_iff_eq] at hbl2
           rw [List.getLast?_eq_getElem?,List.getElem?_drop,List.length_drop,List.length_take]
           rw [List.getElem?_take,if_pos (by omega)]
           rw [List.getD_eq_getElem?_getD] at hbl2
           have:b+(min i s.length-b-1)=i-1:=by omega
           rw [this]
           rw [List.getElem?_eq_getElem (by omega)] at hbl2 ⊢
           exact congrArg some hbl2
         ·by_cases hy:y=[]
          ·exact .inl hy
          ·right
           have:=join_head j1 hy
           rw [←this]
           have hne:(i+1==s.length)=false:=by
            rw [beq_eq_false_iff_ne]
            intro e
            rw [List.drop_of_length_le (by omega)] at this
            cases y with
            | nil=>exact hy rfl
            | cons=>simp at this
           rw [hne,Bool.false_or,beq_iff_eq] at hbr
           rw [List.head?_drop]
           rw [List.getD_eq_getElem?_getD] at hbr
           have:i+1<s.length:=by
            rw [beq_eq_false_iff_ne] at hne;omega
           rw [List.getElem?_eq_getElem this] at hbr ⊢
           exact congrArg some hbr
       ·exact over _ _ (by omega)
theorem cutS_sound (s:Bt) (g:UInt8):Lib.join (cutS s g) [g]=s∧CutOK (cutS s g):=by
 have:=cut_sound (g:=g) (s:=s) (s.length+1) 0 0 0 (Nat.le_refl _) (by omega) (by omega) (Nat.zero_le _)
 simpa [cutS] using this
theorem cutOK_at:∀ {L:List Bt},CutOK L→∀ k,0<k→L.getD k []=[]∨(L.getD k []).head? =some 32
 | _,.one x,k,hk=>by
  cases k with
  | zero=>omega
  | succ k=>simp
 | _,.cons (y:=y) h1 h2 h,k,hk=>by
  cases k with
  | zero=>omega
  | succ k =>
   cases k with
   | zero=>simpa using h2
   | succ k =>
    rw [List.getD_cons_succ]
    exact cutOK_at h (k+1) (by omega)
theorem cutOK_end:∀ {x y:Bt} {r:List Bt},CutOK (x::y::r)→(x=[]∨x.getLast? =some 32)
 | _,_,_,.cons h1 _ _=>h1
theorem trim_inv {k n:Nat} {x t:Bt} (h:trimP k n x=some t) (hx:0<k→x=[]∨x.head? =some 32):x=(if k=0 then [] else [32])++t++(if k+1<n then [32] else []):=by
 unfold trimP at h
 by_cases h0:k=0
 ·subst h0
  simp only [Nat.lt_irrefl,decide_false,Bool.false_and,Bool.false_eq_true,if_false,if_true,List.nil_append] at h ⊢
  by_cases h1:0+1<n
  ·simp only [h1,decide_true,if_true] at h ⊢
   split at h
   ·cases h
   ·rename_i hc
    injection h with h;subst h
    simp only [Bool.or_eq_true,beq_iff_eq,bne_iff_ne,not_or,Classical.not_not,ne_eq] at hc
    obtain ⟨u,c,rfl⟩:=snoc_of hc.1
    have:=hc.2
    simp at this
    subst this;simp
  ·simp only [h1,decide_false,Bool.false_eq_true,if_false] at h ⊢
   injection h with h;simp [h]
 ·have e0:decide (0<k)=true:=by simp;omega
  simp only [e0,Bool.true_and,h0,if_false] at h ⊢
  split at h
  ·cases h
  ·rename_i hne
   have hne:x≠[]:=by simpa using hne
   have hh:x.head? =some 32:=(hx (by omega)).resolve_left hne
   cases x with
   | nil=>exact absurd rfl hne
   | cons c x =>
    have:c=32:=by simpa using hh
    subst this
    simp only [if_true,List.drop_succ_cons,List.drop_zero] at h
    by_cases h1:k+1<n
    ·simp only [h1,decide_true,if_true] at h ⊢
     split at h
     ·cases h
     ·rename_i hc
      injection h with h;subst h
      simp only [Bool.or_eq_true,beq_iff_eq,bne_iff_ne,not_or,Classical.not_not,ne_eq] at hc
      obtain ⟨u,c,rfl⟩:=snoc_of hc.1
      have:=hc.2
      simp at this
      subst this;simp
    ·simp only [h1,decide_false,Bool.false_eq_true,if_false] at h ⊢
     injection h with h;simp [h]
theorem sideP_inv {k:Nat} {t:Bt} {x:Ex} {g:Bool} (h:sideP k t=some (x,g)):let u:=if k==0 then t.take (t.length-1) else t.drop 1
  Gd u∧(x,g)=sdE (some u):=by
 unfold sideP at h
 simp only at h ⊢
 generalize (if k==0 then t.take (t.length-1) else t.drop 1)=u at *
 split at h
 ·cases h
 ·rename_i hc
  simp only [Bool.or_eq_true,beq_iff_eq,bne_iff_ne,not_or,Classical.not_not,ne_eq,Bool.not_eq_true] at hc
  refine ⟨⟨hc.1.1,hc.1.2,hc.2⟩,?_⟩
  unfold sdE
  simp only
  split at h
  ·rename_i h1;rw [if_pos h1];injection h with h;exact h.symm
  ·rename_i h1;rw [if_neg h1];injection h with h;exact h.symm
theorem oneP_inv {t:Bt} {E:List Ex} {g:Bool} (h:oneP t=some (E,g)):∃ p,t=plcT p∧gdP p∧E=[(sdE p.1).1,(sdE p.2).1]∧g=gP p:=by
 unfold oneP at h
 split at h
 ·rename_i hl
  obtain ⟨j,c⟩:=cutS_sound t 95
  match hL:cutS t 95,hl with
  | [l0,l1],_ =>
   rw [hL] at h j c
   have c0:=cutOK_end c
   have c1:=cutOK_at c 1 (by omega)
   simp only [List.getD_cons_succ,List.getD_cons_zero] at c1
   have hj:t=l0++95::l1:=by rw [←j,z1R,Lib.join_one];simp
   rw [show (2:Nat)=1+1 from rfl,sidesF] at h
   have left:∃ a,(l0=tL a∧gdS a∧sidesF [l0,l1] 1=some ([(sdE a).1,lf 2],(sdE a).2))∨sidesF [l0,l1] 1=none:=by
    rw [show (1:Nat)=0+1 from rfl,sidesF,sidesF]
    simp only [List.getD_cons_zero]
    by_cases h0:l0=[]
    ·subst h0;exact ⟨none,.inl ⟨rfl,trivial,rfl⟩⟩
    ·have e:(l0==[])=false:=by simpa using h0
     rw [e]
     simp only [Bool.false_eq_true,if_false]
     cases hs:sideP 0 l0 with
     | none=>exact ⟨none,.inr rfl⟩
     | some y =>
      obtain ⟨x,g'⟩:=y
      obtain ⟨s1,s2⟩:=sideP_inv hs
      simp only [beq_self_eq_true,if_true] at s1 s2
      obtain ⟨u,c',rfl⟩:=snoc_of h0
      have:c'=32:=by
       rcases c0 with c0 | c0
       ·exact absurd c0 h0
       ·simpa using c0
      subst this
      have e2:(u++[32]).take ((u++[32]).length-1)=u:=by simp
      rw [e2] at s1 s2
      refine ⟨some u,.inl ⟨rfl,s1,?_⟩⟩
      rw [←s2];simp
   obtain ⟨a,⟨a1,a2,a3⟩ | a3⟩:=left
   ·rw [a3] at h
    simp only [List.getD_cons_succ,List.getD_cons_zero] at h
    split at h
    ·rename_i h1
     have h1:l1=[]:=by simpa using h1
     injection h with h;injection h with h h'
     exact ⟨(a,none),by rw [hj,a1,h1];rfl,⟨a2,trivial⟩,h.symm,by rw [←h'];simp [gP,sdE]⟩
    ·rename_i h1
     have h1:l1≠[]:=by simpa using h1
     split at h
     ·cases h
     ·rename_i x g' hs
      obtain ⟨s1,s2⟩:=sideP_inv hs
      have e0:((1:Nat)==0)=false:=rfl
      simp only [e0,Bool.false_eq_true,if_false] at s1 s2
      cases l1 with
      | nil=>exact absurd rfl h1
      | cons c' u =>
       have:c'=32:=by
        rcases c1 with c1 | c1
        ·exact absurd c1 (by simp)
        ·simpa using c1
       subst this
       have e2:(32::u).drop 1=u:=rfl
       rw [e2] at s1 s2
       injection h with h;injection h with h h'
       refine ⟨(a,some u),by rw [hj,a1];rfl,⟨a2,s1⟩,?_,?_⟩
       ·rw [←h];simp only [←s2];simp
       ·rw [←h'];simp only [gP,←s2]
   ·rw [a3] at h;cases h
 ·cases h
theorem segs_join:∀ (l:List (Sd × Sd)) (x:Bt),l≠[]→Lib.join (segs x l) [59]=x++plsT l
 | [],_,h=>absurd rfl h
 | [p],x,_=>by rw [segs,Lib.join_one,plsT_one]
 | p::q::l,x,_=>by
  have ih:=segs_join (q::l) [32] (by simp)
  rw [segs]
  cases hs:segs [32] (q::l) with
  | nil=>have:=segs_len [32] (q::l);rw [hs] at this;simp at this
  | cons y r=>rw [hs] at ih;rw [z1R,ih,plsT_cons];simp
theorem readI_inv {L:List Bt} (hc:CutOK L):∀ {k:Nat} {ps:List Pl} {g:Bool},readI L k=some (ps,g)→∃ l:List (Sd × Sd),l.length=k∧(∀ p∈l,gdP p)∧ps=l.map mP∧g=l.any gP ∧
  ∀ j p,l[j]? =some p→L.getD j []=(if j=0 then [] else [32])++plcT p++(if j+1<L.length then [32] else [])
 | 0,ps,g,h=>by
  simp only [readI] at h;injection h with h;injection h with h h'
  exact ⟨[],rfl,by simp,h.symm,h'.symm,by simp⟩
 | k+1,ps,g,h=>by
  simp only [readI] at h
  split at h
  ·cases h
  ·rename_i ps' g' hr
   obtain ⟨l,l1,l2,l3,l4,l5⟩:=readI_inv hc hr
   split at h
   ·cases h
   ·rename_i t ht
    split at h
    ·cases h
    ·rename_i E g2 ho
     injection h with h;injection h with h h'
     obtain ⟨p,p1,p2,p3,p4⟩:=oneP_inv ho
     have hx:=trim_inv ht (fun hk=>cutOK_at hc k hk)
     refine ⟨l++[p],by simp [l1],?_,?_,?_,?_⟩
     ·intro q hq
      rcases List.mem_append.1 hq with hq | hq
      ·exact l2 q hq
      ·rw [List.mem_singleton] at hq;subst hq;exact p2
     ·rw [←h,l3,p3];simp [plOf,mP]
     ·rw [←h',l4,p4,any_snoc]
     ·intro j q hj
      by_cases hjk:j<l.length
      ·rw [List.getElem?_append_left hjk] at hj
       exact l5 j q hj
      ·have hj2:=(List.getElem?_eq_some_iff.1 hj).1
       simp at hj2
       have:j=l.length:=by omega
       subst this
       rw [List.getElem?_append_right (Nat.le_refl _),Nat.sub_self] at hj
       have:p=q:=by simpa using hj
       subst this
       rw [l1,hx,p1]
theorem ext_getD {a b:List Bt} (h:a.length=b.length) (h2:∀ k,k<a.length→a.getD k []=b.getD k []):a=b:=by
 refine List.ext_getElem h fun k h3 h4=>?_
 have:=h2 k h3
 rw [List.getD_eq_getElem?_getD,List.getD_eq_getElem?_getD,List.getElem?_eq_getElem h3,List.getElem?_eq_getElem h4] at this
 exact this
theorem readP_inv {T:Bt} {ps:List Pl} {g:Bool} (h:readP T=some (ps,g)):∃ l:List (Sd × Sd),l≠[]∧T=plsT l∧(∀ p∈l,gdP p)∧ps=l.map mP∧g=l.any gP:=by
 unfold readP at h
 obtain ⟨j,c⟩:=cutS_sound T 59
 obtain ⟨l,l1,l2,l3,l4,l5⟩:=readI_inv c h
 have hL:cutS T 59=segs [] l:=by
  refine ext_getD (by rw [segs_len,l1]) fun k hk=>?_
  obtain ⟨p,hp⟩:∃ p,l[k]? =some p:=⟨_,List.getElem?_eq_getElem (by omega)⟩
  rw [l5 k _ hp,segs_at l [] k _ hp,l1]
 have h0:l≠[]:=by
  rintro rfl
  rw [hL] at c;cases c
 refine ⟨l,h0,?_,l2,l3,l4⟩
 rw [hL,segs_join l [] h0] at j
 exact j.symm
theorem z5H (x y:Bt):spl (x++32::y)=spl x++spl y:=by
 induction x with
 | nil=>simp [spl]
 | cons c x ih =>
  simp only [List.cons_append,spl,ih]
  split
  ·rfl
  ·cases hx:spl x with
   | nil=>exact absurd hx (z3P x)
   | cons p ps=>rfl
theorem spl_one {x:Bt} (h:∀ c∈x,c≠32):spl x=[x]:=by
 induction x with
 | nil=>rfl
 | cons c x ih =>
  unfold spl
  have hc:¬ (c==32)=true:=by simpa using h c (by simp)
  rw [if_neg hc,ih fun d hd=>h d (by simp [hd])]
theorem spl_free:∀ {s y:Bt},y∈spl s→∀ c∈y,c≠32
 | [],y,h=>by simp [spl] at h;subst h;simp
 | c::t,y,h=>by
  unfold spl at h
  split at h
  ·rcases List.mem_cons.1 h with rfl | h
   ·simp
   ·exact spl_free h
  ·rename_i hc
   have hc:c≠32:=by simpa using hc
   split at h
   ·rename_i p ps hp
    rcases List.mem_cons.1 h with rfl | h
    ·intro d hd
     rcases List.mem_cons.1 hd with rfl | hd
     ·exact hc
     ·exact spl_free (s:=t) (y:=p) (by rw [hp];simp) d hd
    ·exact spl_free (s:=t) (y:=y) (by rw [hp];simp [h])
   ·simp at h;subst h;simpa using hc
theorem spl_join:∀ {l:List Bt},l≠[]→(∀ y∈l,∀ c∈y,c≠32)→spl (Lib.join l [32])=l
 | [],h,_=>absurd rfl h
 | [x],_,h=>by rw [Lib.join_one];exact spl_one (h x (by simp))
 | x::y::r,_,h=>by
  rw [z1R]
  have:=spl_join (l:=y::r) (by simp) (fun z hz=>h z (by simp at hz ⊢;exact .inr hz))
  rw [List.append_assoc,List.singleton_append,z5H,this,spl_one (h x (by simp))];rfl
def takS (sg:Bt):Int→List Bt→Nat
 | _,[]=>0
 | n,p::ps=>if n==0&&p==sg then 0 else takS sg (n+depR p) ps+1
theorem takS_le (sg:Bt):∀ (n:Int) (l:List Bt),takS sg n l≤l.length
 | _,[]=>Nat.le_refl _
 | n,p::ps=>by unfold takS;split<;>simp;exact takS_le sg _ ps
theorem takS_sg (sg:Bt) (R:List Bt):takS sg 0 (sg::R)=0:=by simp [takS]
def DepX (x:Bt) (k:Int):Prop:=∀ (y:Bt) (n:Nat),(x++y).length<n→∃ m,y.length<m∧depF n 0 (x++y)=depF m k y
theorem DepX.nil:DepX [] 0:=fun y n h=>⟨n,by simpa using h,rfl⟩
theorem DepX.dep {x:Bt} {k:Int} (h:DepX x k):depR x=k:=by
 obtain ⟨m,_,h2⟩:=h [] (x.length+1) (by simp)
 rw [List.append_nil,depF_nil] at h2
 exact h2
theorem DepX.step {x t:Bt} {k k':Int} (h:DepX x k) (ht:∀ (y:Bt) (n:Nat),(t++y).length<n→∃ m,y.length<m∧depF n k (t++y)=depF m k' y):DepX (x++t) k':=by
 intro y n hn
 rw [List.append_assoc] at hn ⊢
 obtain ⟨m,h1,h2⟩:=h _ n hn
 obtain ⟨m2,h3,h4⟩:=ht y m h1
 exact ⟨m2,h3,by rw [h2,h4]⟩
theorem takS_piece {sg:Bt} {d0 k:Int} {x:Bt} {R:List Bt} (hsg:sg≠[]) (hD:DepX x k) (hh:d0=0→x=[]∨x.headD 0≠sg.headD 0):takS sg d0 (x::R)=takS sg (d0+k) R+1:=by
 rw [takS,hD.dep,if_neg]
 simp only [Bool.and_eq_true,beq_iff_eq,not_and]
 intro h0 hx
 rcases hh h0 with rfl | h
 ·exact hsg hx.symm
 ·exact h (by rw [hx])
theorem itm_head {t:Bt} (h:Itm t):t≠[]∧t.headD 0≠95∧t.headD 0≠59:=by
 cases h with
 | one c h1 h2 h3 h4 h5 h6 h7=>exact ⟨by simp,h6,h7⟩
 | esc c h=>exact ⟨by simp,by show (92:UInt8)≠95;decide,by show (92:UInt8)≠59;decide⟩
 | ang w h=>exact ⟨by simp,by show (60:UInt8)≠95;decide,by show (60:UInt8)≠59;decide⟩
 | none=>exact ⟨by simp,by decide,by decide⟩
theorem itm_free {t:Bt} (h:Itm t):t=[32]∨∀ c∈t,c≠32:=by
 cases h with
 | one c h1 h2 h3 h4 h5 h6 h7 =>
  by_cases hc:c=32
  ·exact .inl (by rw [hc])
  ·exact .inr (by simpa using hc)
 | esc c h=>exact .inr (by simpa using h)
 | ang w h =>
  refine .inr fun c hc=>?_
  simp only [List.mem_cons,List.mem_append,List.not_mem_nil,or_false] at hc
  rcases hc with rfl | hc | rfl
  ·decide
  ·exact (h c hc).2
  ·decide
 | none=>exact .inr (by decide)
theorem headD_app {x t:Bt} (h:x≠[]):(x++t).headD 0=x.headD 0:=by
 cases x with
 | nil=>exact absurd rfl h
 | cons=>rfl
theorem takS_lin {sg:Bt} (hsg:sg=[95]∨sg=[59]) {d e:Nat} {ts:List Bt} (h:Lin d ts e):∀ (d0:Int) (x:Bt) (R:List Bt),(∀ c∈x,c≠32)→DepX x (d-d0)→(d0=0→x=[]∨x.headD 0≠sg.headD 0) →
  takS sg d0 (spl (x++ts.flatten)++R)=(spl (x++ts.flatten)).length+takS sg e R:=by
 have hne:sg≠[]:=by rcases hsg with rfl | rfl<;>simp
 have noblank:∀ {x t:Bt},(∀ c∈x,c≠32)→(∀ c∈t,c≠32)→∀ c∈x++t,c≠32:=fun h1 h2 c hc=>by
  rcases List.mem_append.1 hc with hc | hc
  ·exact h1 c hc
  ·exact h2 c hc
 have zero:∀ {d:Nat} {d0:Int},DepX [] (d-d0)→d0=d:=fun h=>by have:=h.dep;have e:depR []=0:=rfl;omega
 induction h with
 | nil d =>
  intro d0 x R hx hD hh
  rw [List.flatten_nil,List.append_nil,spl_one hx]
  show takS sg d0 (x::R)=1+takS sg d R
  rw [takS_piece hne hD hh,show d0+((d:Int)-d0)=d by omega];omega
 | @item d e t ts hi _ ih =>
  intro d0 x R hx hD hh
  rw [List.flatten_cons]
  rcases itm_free hi with rfl | hb
  ·rw [List.singleton_append,z5H,spl_one hx]
   show takS sg d0 (x::(spl ts.flatten++R))=_
   rw [takS_piece hne hD hh,show d0+((d:Int)-d0)=d by omega]
   have:=ih (d:Int) [] R (by simp) (by rw [Int.sub_self];exact .nil) (fun _=>.inl rfl)
   rw [List.nil_append] at this
   rw [this];simp;omega
  ·rw [←List.append_assoc]
   refine ih d0 (x++t) R (noblank hx hb) (hD.step fun y n hn=>depF_item hi hn) fun h0=>.inr ?_
   obtain ⟨h1,h2,h3⟩:=itm_head hi
   have hs:t.headD 0≠sg.headD 0:=by rcases hsg with rfl | rfl;exact h2;exact h3
   rcases hh h0 with rfl | h
   ·simpa using hs
   ·by_cases hx0:x=[]
    ·subst hx0;simpa using hs
    ·rw [headD_app hx0];exact h
 | @free d e t ts hi _ ih =>
  intro d0 x R hx hD hh
  rw [List.flatten_cons,←List.append_assoc]
  refine ih d0 (x++t) R (noblank hx ?_) (hD.step fun y n hn=>?_) fun h0=>.inr ?_
  ·rcases hi with rfl | rfl<;>decide
  ·obtain ⟨n,rfl,hn⟩:=fuel_pos hn
   rcases hi with rfl | rfl
   ·exact ⟨n,by simp at hn;omega,by simp [depF]⟩
   ·obtain ⟨n,rfl⟩:∃ k,n=k+1:=⟨n-1,by simp at hn;omega⟩
    exact ⟨n,by simp at hn;omega,by simp [depF]⟩
  ·have hx0:x≠[]:=by
    rintro rfl
    have:=zero hD
    omega
   rw [headD_app hx0]
   exact (hh h0).resolve_left hx0
 | @opn d e ts hi _ ih =>
  intro d0 x R hx hD hh
  rw [List.flatten_cons,←List.append_assoc]
  refine ih d0 (x++[91]) R (noblank hx (by decide)) (hD.step fun y n hn=>?_) fun h0=>.inr ?_
  ·obtain ⟨n,rfl,hn⟩:=fuel_pos hn
   rw [show ((d+1:Nat):Int)-d0=(d:Int)-d0+1 by omega]
   cases y with
   | nil=>exact ⟨n,by simp at hn;simp;omega,by simp [depF,depF_nil]⟩
   | cons c y =>
    by_cases hc:c=93
    ·subst hc
     exact ⟨n+1,by simp at hn;simp;omega,by simp [depF]⟩
    ·exact ⟨n,by simp at hn;simp;omega,by simp [depF,hc]⟩
  ·by_cases hx0:x=[]
   ·subst hx0
    rcases hsg with rfl | rfl<;>decide
   ·rw [headD_app hx0];exact (hh h0).resolve_left hx0
 | @cls d e ts _ ih =>
  intro d0 x R hx hD hh
  rw [List.flatten_cons,←List.append_assoc]
  refine ih d0 (x++[93]) R (noblank hx (by decide)) (hD.step fun y n hn=>?_) fun h0=>.inr ?_
  ·obtain ⟨n,rfl,hn⟩:=fuel_pos hn
   rw [show (d:Int)-d0=((d+1:Nat):Int)-d0-1 by omega]
   exact ⟨n,by simp at hn;omega,by simp [depF]⟩
  ·by_cases hx0:x=[]
   ·subst hx0
    rcases hsg with rfl | rfl<;>decide
   ·rw [headD_app hx0];exact (hh h0).resolve_left hx0
def sp:Sd→List Bt
 | none=>[]
 | some u=>spl u
theorem takS_sd {sg:Bt} (hsg:sg=[95]∨sg=[59]) {a:Sd} (hl:∀ u,a=some u→u.length≤6000) (h:gdS a) (R:List Bt):takS sg 0 (sp a++R)=(sp a).length+takS sg 0 R:=by
 cases a with
 | none=>simp [sp]
 | some u =>
  obtain ⟨ts,h1,h2⟩:=Gd.items (hl u rfl) h
  have:=takS_lin hsg (h2 0) 0 [] R (by simp) (by simpa using DepX.nil) (fun _=>.inl rfl)
  rw [List.nil_append,←h1] at this
  exact this
def sideR (sg:Bt) (ps:List Bt):Option (Ex × Int × Nat) :=
 let k:=takS sg 0 ps
 let s:=Lib.join (ps.take k) [32]
 if k==0 then some (lf 2,0,0)
 else if s==[]||s.getD 0 0==32||s.getD (s.length-1) 0==32 then none
 else if (exP s).2==2||bareR s then none
 else if (exP s).2 != 0 then some (lf 2,(exP s).2,k) else some ((exP s).1,0,k)
def sdR:Sd→Ex × Int
 | none=>(lf 2,0)
 | some u=>if (exP u).2 != 0 then (lf 2,(exP u).2) else ((exP u).1,0)
theorem ends_iff {s:Bt} (h:s≠[]):(s.getD 0 0==32||s.getD (s.length-1) 0==32)=false↔s.head?≠some 32∧s.getLast?≠some 32:=by
 obtain ⟨t,c,rfl⟩:=snoc_of h
 have e1:(t++[c]).getD ((t++[c]).length-1) 0=c:=by simp
 rw [e1,List.getLast?_concat]
 cases hx:t++[c] with
 | nil=>simp at hx
 | cons a r=>simp
theorem sideR_sd {sg:Bt} (hsg:sg=[95]∨sg=[59]) {a:Sd} (hl:∀ u,a=some u→u.length≤6000) (h:gdS a) {R:List Bt} (hR:R=[]∨∃ R',R=sg::R'):sideR sg (sp a++R)=some ((sdR a).1,(sdR a).2,(sp a).length):=by
 have h0:takS sg 0 R=0:=by
  rcases hR with rfl | ⟨R',rfl⟩
  ·rfl
  ·exact takS_sg _ _
 have ht:=takS_sd hsg hl h R
 rw [h0,Nat.add_zero] at ht
 unfold sideR
 simp only
 rw [ht]
 cases a with
 | none=>rfl
 | some u =>
  have hk:((sp (some u)).length==0)=false:=by
   rw [beq_eq_false_iff_ne]
   intro e
   exact z3P u (List.length_eq_zero_iff.1 e)
  rw [hk]
  simp only [Bool.false_eq_true,if_false]
  have hj:Lib.join ((sp (some u)++R).take (sp (some u)).length) [32]=u:=by
   rw [List.take_left];exact join_spl u
  rw [hj]
  obtain ⟨g1,g2,g3,g4,g5⟩:=(gd_iff (hl u rfl)).1 h
  have e1:(u==[])=false:=by simpa using g1
  have e2:=(ends_iff g1).2 ⟨g2,g3⟩
  rw [Bool.or_assoc,e1,e2,g5]
  have e3:((exP u).2==2)=false:=by simpa using g4
  rw [e3]
  simp only [Bool.or_self,Bool.false_eq_true,if_false,sdR]
  split<;>rfl
theorem sideR_inv {sg:Bt} {ps:List Bt} {e:Ex} {f:Int} {k:Nat} (hb:∀ y∈ps,∀ c∈y,c≠32) (hl:(Lib.join ps [32]).length≤6000) (h:sideR sg ps=some (e,f,k)) :
  ∃ a:Sd,gdS a∧e=(sdR a).1∧f=(sdR a).2∧k=(sp a).length∧ps=sp a++ps.drop k:=by
 unfold sideR at h
 simp only at h
 split at h
 ·injection h with h;injection h with h1 h;injection h with h2 h3
  exact ⟨none,trivial,h1.symm,h2.symm,h3.symm,by rw [←h3];rfl⟩
 ·rename_i hk
  have hk:takS sg 0 ps≠0:=by simpa using hk
  have hkl:=takS_le sg 0 ps
  generalize hK:takS sg 0 ps=K at *
  have hne:ps.take K≠[]:=by
   intro e
   have:=congrArg List.length e
   rw [List.length_take,List.length_nil] at this
   omega
  have hsp:spl (Lib.join (ps.take K) [32])=ps.take K:=spl_join hne fun y hy=>hb y (List.mem_of_mem_take hy)
  have hlen:(Lib.join (ps.take K) [32]).length≤6000:=by
   refine Nat.le_trans ?_ hl
   by_cases hd:ps.drop K=[]
   ·have:ps.take K=ps:=by
     conv=>rhs;rw [←List.take_append_drop K ps,hd,List.append_nil]
    rw [this];exact Nat.le_refl _
   ·have hap:∀ (a b:List Bt),a≠[]→(Lib.join a [32]).length≤(Lib.join (a++b) [32]).length:=by
     intro a
     induction a with
     | nil=>intro b h;exact absurd rfl h
     | cons x a ih =>
      intro b _
      cases a with
      | nil =>
       cases b with
       | nil=>exact Nat.le_refl _
       | cons y b=>rw [Lib.join_one];show _≤(Lib.join (x::y::b) [32]).length;rw [z1R];simp
      | cons y a =>
       rw [z1R]
       have:=ih b (by simp)
       show _≤(Lib.join (x::y::(a++b)) [32]).length
       rw [z1R]
       simp at this ⊢;omega
    have:=hap _ (ps.drop K) hne
    rwa [List.take_append_drop] at this
  generalize hu:Lib.join (ps.take K) [32]=u at *
  split at h
  ·cases h
  ·rename_i hc
   rw [Bool.or_assoc] at hc
   simp only [Bool.not_eq_true,Bool.or_eq_false_iff] at hc
   have hu0:u≠[]:=by simpa using hc.1
   obtain ⟨g2,g3⟩:=(ends_iff hu0).1 (by rw [hc.2.1,hc.2.2];rfl)
   split at h
   ·cases h
   ·rename_i hx
    simp only [Bool.or_eq_true,beq_iff_eq,not_or,Bool.not_eq_true] at hx
    have hg:Gd u:=(gd_iff hlen).2 ⟨hu0,g2,g3,hx.1,hx.2⟩
    have hkk:K=(spl u).length:=by rw [hsp,List.length_take];omega
    refine ⟨some u,hg,?_⟩
    have hps:ps=spl u++ps.drop K:=by rw [hsp,List.take_append_drop]
    simp only [sdR]
    split at h
    ·rename_i hf
     rw [if_pos hf]
     injection h with h;injection h with h1 h;injection h with h2 h3
     exact ⟨h1.symm,h2.symm,by rw [←h3];exact hkk,by rw [←h3];exact hps⟩
    ·rename_i hf
     rw [if_neg hf]
     injection h with h;injection h with h1 h;injection h with h2 h3
     exact ⟨h1.symm,h2.symm,by rw [←h3];exact hkk,by rw [←h3];exact hps⟩
theorem tL_app (a:Sd) (y:Bt):spl (tL a++95::y)=sp a++spl (95::y):=by
 cases a with
 | none=>rfl
 | some u=>rw [tL,List.append_assoc,List.singleton_append,z5H];rfl
theorem tR_app (b:Sd):spl (95::tR b)=[95]::sp b:=by
 cases b with
 | none=>rfl
 | some u =>
  show spl ([95]++32::u)=_
  rw [z5H];rfl
theorem spl_pl (p:Sd × Sd):spl (plcT p)=sp p.1++[95]::sp p.2:=by unfold plcT;rw [tL_app,tR_app]
theorem spl_pls (p q:Sd × Sd) (l:List (Sd × Sd)):spl (plsT (p::q::l))=spl (plcT p)++[59]::spl (plsT (q::l)):=by
 rw [plsT_cons]
 have:plcT p++[32,59,32]++plsT (q::l)=plcT p++32::([59]++32::plsT (q::l)):=by simp
 rw [this,z5H,z5H];rfl
def placeR (ps:List Bt):Option (Ex × Ex × Int × Int × Nat) :=
 match sideR [95] ps with
 | none=>none
 | some (a,fa,k)=>if decide (k<ps.length)&&ps.getD k []==[95] then
   match sideR [59] (ps.drop (k+1)) with
   | none=>none
   | some (b,fb,j)=>some (a,b,fa,fb,k+1+j)
  else none
def frs1 (b f:Int):Int:=if f != 0&&b==0 then f else b
def plsR:Nat→List Bt→List Pl→Int→Option (List Pl × Int)
 | 0,_,_,_=>none
 | n+1,ps,acc,bad=>match placeR ps with
  | none=>none
  | some (a,b,fa,fb,k) =>
   if k==ps.length then some (acc++[(a,b)],frs1 (frs1 bad fa) fb)
   else if ps.getD k []==[59] then plsR n (ps.drop (k+1)) (acc++[(a,b)]) (frs1 (frs1 bad fa) fb)
   else none
def mR (p:Sd × Sd):Pl:=((sdR p.1).1,(sdR p.2).1)
def badR (bad:Int) (l:List (Sd × Sd)):Int:=l.foldl (fun b p=>frs1 (frs1 b (sdR p.1).2) (sdR p.2).2) bad
theorem tL_sd {a:Sd} {n:Nat} (h:(tL a).length≤n):∀ u,a=some u→u.length≤n:=by
 rintro u rfl
 simp [tL] at h;omega
theorem tR_sd {a:Sd} {n:Nat} (h:(tR a).length≤n):∀ u,a=some u→u.length≤n:=by
 rintro u rfl
 simp [tR] at h;omega
theorem placeR_pl {p:Sd × Sd} (h:gdP p) (hl:(plcT p).length≤6000) {R:List Bt} (hR:R=[]∨∃ R',R=[59]::R'):placeR (spl (plcT p)++R)=some ((sdR p.1).1,(sdR p.2).1,(sdR p.1).2,(sdR p.2).2,(spl (plcT p)).length):=by
 have hlen:=plcT_len p
 have h1:=sideR_sd (sg:=[95]) (.inl rfl) (tL_sd (a:=p.1) (n:=6000) (by omega)) h.1 (R:=[95]::(sp p.2++R)) (.inr ⟨_,rfl⟩)
 have h2:=sideR_sd (sg:=[59]) (.inr rfl) (tR_sd (a:=p.2) (n:=6000) (by omega)) h.2 (R:=R) hR
 have e:spl (plcT p)++R=sp p.1++[95]::(sp p.2++R):=by rw [spl_pl];simp
 have e2:(sp p.1++[95]::(sp p.2++R)).drop ((sp p.1).length+1)=sp p.2++R:=by rw [←List.drop_drop];simp
 unfold placeR
 rw [e,h1]
 simp only
 rw [e2,h2]
 have e3:(decide ((sp p.1).length<(sp p.1++[95]::(sp p.2++R)).length)&&(sp p.1++[95]::(sp p.2++R)).getD (sp p.1).length []==[95])=true:=by simp
 rw [e3]
 simp only [if_true]
 rw [spl_pl];simp;omega
theorem plsR_pls:∀ (l:List (Sd × Sd)) (n:Nat) (acc:List Pl) (bad:Int),l≠[]→(∀ p∈l,gdP p)→(plsT l).length≤6000→l.length≤n→plsR n (spl (plsT l)) acc bad=some (acc++l.map mR,badR bad l)
 | [],_,_,_,h,_,_,_=>absurd rfl h
 | p::l,0,_,_,_,_,_,hn=>by simp at hn
 | [p],n+1,acc,bad,_,hg,hl,hn=>by
  rw [plsT_one] at hl ⊢
  have:=placeR_pl (hg p (by simp)) hl (R:=[]) (.inl rfl)
  rw [List.append_nil] at this
  simp only [plsR,this]
  simp [mR,badR]
 | p::q::l,n+1,acc,bad,_,hg,hl,hn=>by
  rw [spl_pls]
  rw [plsT_cons] at hl
  have:=placeR_pl (hg p (by simp)) (by simp at hl;omega) (R:=[59]::spl (plsT (q::l))) (.inr ⟨_,rfl⟩)
  have ih:=plsR_pls (q::l) n (acc++[mR p]) (frs1 (frs1 bad (sdR p.1).2) (sdR p.2).2) (by simp) (fun x hx=>hg x (by simp at hx ⊢;exact .inr hx)) (by simp at hl;omega) (by simp at hn ⊢;omega)
  simp only [plsR,this]
  have e1:((spl (plcT p)).length==(spl (plcT p)++[59]::spl (plsT (q::l))).length)=false:=by rw [beq_eq_false_iff_ne];simp
  have e2:((spl (plcT p)++[59]::spl (plsT (q::l))).getD (spl (plcT p)).length []==[59])=true:=by simp
  have e3:(spl (plcT p)++[59]::spl (plsT (q::l))).drop ((spl (plcT p)).length+1)=spl (plsT (q::l)):=by rw [←List.drop_drop];simp
  rw [e1,e2,e3]
  simp only [Bool.false_eq_true,if_false,if_true]
  have ih':plsR n (spl (plsT (q::l))) (acc++[((sdR p.1).1,(sdR p.2).1)]) (frs1 (frs1 bad (sdR p.1).2) (sdR p.2).2)=_:=ih
  rw [ih']
  simp [badR]
theorem placeR_inv {ps:List Bt} {a b:Ex} {fa fb:Int} {k:Nat} (hb:∀ y∈ps,∀ c∈y,c≠32) (hl:(Lib.join ps [32]).length≤6000) (h:placeR ps=some (a,b,fa,fb,k)) :
  ∃ p:Sd × Sd,gdP p∧a=(sdR p.1).1∧b=(sdR p.2).1∧fa=(sdR p.1).2∧fb=(sdR p.2).2∧k=(spl (plcT p)).length∧ps=spl (plcT p)++ps.drop k:=by
 unfold placeR at h
 split at h
 ·cases h
 ·rename_i a1 f1 k1 h1
  obtain ⟨sa,g1,g2,g3,g4,g5⟩:=sideR_inv hb hl h1
  split at h
  ·rename_i hc
   simp only [Bool.and_eq_true,decide_eq_true_eq,beq_iff_eq] at hc
   have hd:ps.drop k1=[95]::ps.drop (k1+1):=by
    rw [List.drop_eq_getElem_cons hc.1]
    have:=hc.2
    rw [List.getD_eq_getElem?_getD,List.getElem?_eq_getElem hc.1] at this
    have:ps[k1]=[95]:=this
    rw [this]
   split at h
   ·cases h
   ·rename_i b1 f2 k2 h2
    obtain ⟨sb,j1,j2,j3,j4,j5⟩:=sideR_inv (fun y hy=>hb y (List.mem_of_mem_drop hy)) (by
     have:=z3Z [32] ps (k1+1)
     omega) h2
    injection h with h;injection h with e1 h;injection h with e2 h;injection h with e3 h;injection h with e4 e5
    refine ⟨(sa,sb),⟨g1,j1⟩,by rw [←e1,g2],by rw [←e2,j2],by rw [←e3,g3],by rw [←e4,j3],?_,?_⟩
    ·rw [spl_pl,←e5,g4,j4];simp;omega
    ·have:ps.drop k=(ps.drop (k1+1)).drop k2:=by rw [List.drop_drop,←e5]
     rw [this,spl_pl]
     conv=>lhs;rw [g5,hd,j5]
     simp
  ·cases h
theorem plsR_inv:∀ (n:Nat) (ps:List Bt) (acc:List Pl) (bad:Int) (P:List Pl) (b:Int),(∀ y∈ps,∀ c∈y,c≠32)→(Lib.join ps [32]).length≤6000→plsR n ps acc bad=some (P,b) →
  ∃ l:List (Sd × Sd),l≠[]∧(∀ p∈l,gdP p)∧ps=spl (plsT l)∧P=acc++l.map mR∧b=badR bad l
 | 0,_,_,_,_,_,_,_,h=>by cases h
 | n+1,ps,acc,bad,P,b,hb,hl,h=>by
  simp only [plsR] at h
  split at h
  ·cases h
  ·rename_i a1 b1 f1 f2 k hp
   obtain ⟨p,g1,g2,g3,g4,g5,g6,g7⟩:=placeR_inv hb hl hp
   split at h
   ·rename_i hk
    have hk:k=ps.length:=by simpa using hk
    injection h with h;injection h with h1 h2
    refine ⟨[p],by simp,by simpa using g1,?_,?_,?_⟩
    ·rw [plsT_one]
     rw [hk,List.drop_length,List.append_nil] at g7
     exact g7
    ·rw [←h1,g2,g3];rfl
    ·rw [←h2,g4,g5];rfl
   ·rename_i hk
    split at h
    ·rename_i hs
     have hlt:k<ps.length:=by
      refine Classical.byContradiction fun hn=>?_
      rw [List.getD_eq_getElem?_getD,List.getElem?_eq_none (by omega)] at hs
      cases hs
     have hd:ps.drop k=[59]::ps.drop (k+1):=by
      rw [List.drop_eq_getElem_cons hlt]
      rw [beq_iff_eq,List.getD_eq_getElem?_getD,List.getElem?_eq_getElem hlt] at hs
      have:ps[k]=[59]:=hs
      rw [this]
     obtain ⟨l,l1,l2,l3,l4,l5⟩:=plsR_inv n _ _ _ _ _ (fun y hy=>hb y (List.mem_of_mem_drop hy)) (by
      have:=z3Z [32] ps (k+1)
      omega) h
     match l,l1 with
     | q::l,_ =>
      refine ⟨p::q::l,by simp,?_,?_,?_,?_⟩
      ·intro x hx
       rcases List.mem_cons.1 hx with rfl | hx
       ·exact g1
       ·exact l2 x hx
      ·rw [spl_pls,←l3,←hd];exact g7
      ·rw [l4,g2,g3];simp [mR]
      ·rw [l5,g4,g5];simp [badR]
    ·cases h
theorem exP_faults {u:Bt} (hv:∀ e q,peA .only u 0=.ok (e,q)→vexpr e=0∨vexpr e=3):(exP u).2=0∨(exP u).2=2∨(exP u).2=3:=by
 unfold exP
 split
 ·exact .inr (.inr rfl)
 ·split
  ·rename_i e q he
   split
   ·split
    ·split
     ·rcases hv e q he with h | h
      ·simp [h]
      ·simp [h]
     ·exact .inl rfl
    ·exact .inr (.inl rfl)
   ·exact .inr (.inl rfl)
  ·exact .inr (.inl rfl)
theorem sd_both (hv:∀ u e q,peA .only u 0=.ok (e,q)→vexpr e=0∨vexpr e=3) {a:Sd} (h:gdS a):((sdE a).2=false∧(sdR a).2=0∧(sdE a).1=(sdR a).1)∨((sdE a).2=true∧(sdR a).2=3):=by
 cases a with
 | none=>exact .inl ⟨rfl,rfl,rfl⟩
 | some u =>
  have hf:=exP_faults (u:=u) (hv u)
  have h2:=h.1
  simp only [sdE,sdR]
  rcases hf with hf | hf | hf
  ·rw [hf];exact .inl ⟨rfl,rfl,rfl⟩
  ·exact absurd hf h2
  ·rw [hf];exact .inr ⟨rfl,rfl⟩
theorem badR_zero (hv:∀ u e q,peA .only u 0=.ok (e,q)→vexpr e=0∨vexpr e=3):∀ {l:List (Sd × Sd)} {b:Int},(∀ p∈l,gdP p)→(b=0∨b=3)→(badR b l=if b==0 && !(l.any gP) then 0 else 3)∧(l.any gP=false→l.map mP=l.map mR)
 | [],b,_,hb=>by
  rcases hb with rfl | rfl<;>exact ⟨rfl,fun _=>rfl⟩
 | p::l,b,hg,hb=>by
  have ha:=sd_both hv (hg p (by simp)).1
  have hc:=sd_both hv (hg p (by simp)).2
  have hb':frs1 (frs1 b (sdR p.1).2) (sdR p.2).2=if b==0 && !(gP p) then 0 else 3:=by
   unfold gP
   rcases ha with ⟨a1,a2,_⟩ | ⟨a1,a2⟩<;>rcases hc with ⟨c1,c2,_⟩ | ⟨c1,c2⟩<;>rcases hb with rfl | rfl<;>rw [a1,a2,c1,c2]<;>rfl
  have hb2:(if b==0 && !(gP p) then (0:Int) else 3)=0∨(if b==0 && !(gP p) then (0:Int) else 3)=3:=by split<;>simp
  obtain ⟨i1,i2⟩:=badR_zero hv (l:=l) (b:=if b==0 && !(gP p) then 0 else 3) (fun q hq=>hg q (by simp [hq])) hb2
  refine ⟨?_,fun hn=>?_⟩
  ·show badR (frs1 (frs1 b (sdR p.1).2) (sdR p.2).2) l=_
   rw [hb',i1,List.any_cons]
   cases gP p<;>cases l.any gP<;>rcases hb with rfl | rfl<;>rfl
  ·rw [List.any_cons,Bool.or_eq_false_iff] at hn
   rw [List.map_cons,List.map_cons,i2 hn.2]
   congr 1
   have hp:=hn.1
   unfold gP at hp
   rw [Bool.or_eq_false_iff] at hp
   rcases ha with ⟨_,_,a3⟩ | ⟨a1,_⟩
   ·rcases hc with ⟨_,_,c3⟩ | ⟨c1,_⟩
    ·unfold mP mR;rw [a3,c3]
    ·rw [c1] at hp;cases hp.2
   ·rw [a1] at hp;cases hp.1
theorem places_same (hv:∀ u e q,peA .only u 0=.ok (e,q)→vexpr e=0∨vexpr e=3) {ps:List Bt} (h0:ps≠[]) (hb:∀ y∈ps,∀ c∈y,c≠32) (hl:(Lib.join ps [32]).length≤6000) {n:Nat} (hn:ps.length≤n) :
  match readP (Lib.join ps [32]) with
  | none=>plsR n ps [] 0=none
  | some (P,g)=>∃ Q,plsR n ps [] 0=some (Q,if g then 3 else 0)∧(g=false→P=Q):=by
 have key:∀ l:List (Sd × Sd),l≠[]→(∀ p∈l,gdP p)→Lib.join ps [32]=plsT l→readP (Lib.join ps [32])=some (l.map mP,l.any gP)∧plsR n ps [] 0=some (l.map mR,if l.any gP then 3 else 0)∧(l.any gP=false→l.map mP=l.map mR):=by
  intro l l0 lg lt
  have hsp:ps=spl (plsT l):=by rw [←lt,spl_join h0 hb]
  have hll:l.length≤n:=by
   refine Nat.le_trans ?_ hn
   rw [hsp]
   clear hsp lt hn hl hb h0
   induction l with
   | nil=>simp
   | cons p l ih =>
    cases l with
    | nil=>exact Nat.pos_of_ne_zero fun e=>z3P _ (List.length_eq_zero_iff.1 e)
    | cons q l =>
     rw [spl_pls]
     have:=ih (by simp) (fun x hx=>lg x (by simp at hx ⊢;exact .inr hx))
     simp at this ⊢;omega
  obtain ⟨b1,b2⟩:=badR_zero hv (b:=0) lg (.inl rfl)
  refine ⟨by rw [lt];exact readP_pls l0 lg (by rw [←lt];exact hl),?_,b2⟩
  rw [hsp,plsR_pls l n [] 0 l0 lg (by rw [←lt];exact hl) hll,b1,List.nil_append]
  cases l.any gP<;>rfl
 cases hr:readP (Lib.join ps [32]) with
 | some x =>
  obtain ⟨P,g⟩:=x
  obtain ⟨l,l0,lt,lg,lp,lq⟩:=readP_inv hr
  obtain ⟨_,k2,k3⟩:=key l l0 lg lt
  subst lp;subst lq
  exact ⟨_,k2,k3⟩
 | none =>
  cases hq:plsR n ps [] 0 with
  | none=>rfl
  | some y =>
   obtain ⟨Q,b⟩:=y
   obtain ⟨l,l0,lg,lt,_⟩:=plsR_inv n ps [] 0 Q b hb hl hq
   have:Lib.join ps [32]=plsT l:=by rw [lt,join_spl]
   have:=(key l l0 lg this).1
   rw [hr] at this;cases this
theorem isSym_sig {y:Bt} (h:y.all isSig=true) (hne:y≠[]):isSym y=true:=by
 unfold isSym
 have h1:y.any badB=false:=by
  have:∀ y:Bt,(!y.any badB)=y.all isSig:=by
   intro y
   induction y with
   | nil=>rfl
   | cons c t ih=>simp only [List.any_cons,List.all_cons,Bool.not_or,ih,bad_sig,Bool.not_not]
  have:=this y
  rw [h] at this
  simpa using this
 rw [h1]
 cases y with
 | nil=>exact absurd rfl hne
 | cons=>rfl
theorem vword_sym {y:Bt} (h:y.all isSig=true) (h1:1≤y.length) (h2:y.length≤16):vword [y]=0:=by
 unfold vword
 have hne:y≠[]:=by rintro rfl;simp at h1
 have hs:=isSym_sig h hne
 have hl:isLongS y=false:=by unfold isLongS;rw [decide_eq_false_iff_not];omega
 simp only [List.any_cons,List.any_nil,hl,hs]
 rfl
theorem right_sym {y:Bt} (h:y.all isSig=true) (h1:1≤y.length) (h2:y.length≤16):(Ex.mk 0 y true []).right=true:=by
 unfold Ex.right badNode badSym
 rw [vword_sym h h1 h2]
 rfl
theorem right_nd {op:Int} {l:List Ex} (h:rights l=true) (h2:badNode (kidsS op) op [] l.length=false) (h0:op≠0):(nd op l).right=true:=by
 unfold nd Ex.right badSym
 have:(op==0)=false:=by simpa using h0
 rw [h2,h,this];rfl
theorem rights_app (a b:List Ex):rights (a++b)=(rights a&&rights b):=by
 induction a with
 | nil=>rfl
 | cons x a ih=>simp only [List.cons_append,rights,ih,Bool.and_assoc]
theorem right_one {op:Int} (h:op=8∨op=9∨op=10∨op=11∨op=12) {a:Ex} (ha:a.right=true):(nd op [a]).right=true:=by
 refine right_nd (by simp [rights,ha]) ?_ (by omega)
 rcases h with rfl | rfl | rfl | rfl | rfl<;>rfl
theorem right_two {op:Int} (h:op=7∨op=13∨op=15) {a b:Ex} (ha:a.right=true) (hb:b.right=true):(nd op [a,b]).right=true:=by
 refine right_nd (by simp [rights,ha,hb]) ?_ (by omega)
 rcases h with rfl | rfl | rfl<;>rfl
theorem right_oneOr {op:Int} (h:op=4∨op=5∨op=6) {l:List Ex} (hl:rights l=true) (hne:l≠[]):(oneOr op l).right=true:=by
 match l,hne with
 | [x],_=>simpa [rights,oneOr] using hl
 | x::y::l,_ =>
  refine right_nd hl ?_ (by omega)
  have e:decide (((x::y::l).length:Int)<2)=false:=by rw [decide_eq_false_iff_not];simp;omega
  rcases h with rfl | rfl | rfl
  ·show (!true||decide (((x::y::l).length:Int)<2)||(decide ((-1:Int)≥0)&&_)||_)=false
   rw [e];rfl
  ·show (!true||decide (((x::y::l).length:Int)<2)||(decide ((-1:Int)≥0)&&_)||_)=false
   rw [e];rfl
  ·show (!true||decide (((x::y::l).length:Int)<2)||(decide ((-1:Int)≥0)&&_)||_)=false
   rw [e];rfl
theorem tok_sym {r t:Bt} (h:tok r=some t) (hb:bgn t=true) (h1:t≠[46]) (h2:t≠[91,93]) (h3:t≠[33]) (h4:t≠[91]) (h5:t≠[126]) (h6:t≠[36]) :
  (if t.headD 0==92 then (Ex.mk 0 (t.drop 1) true []) else if t.headD 0==60 then .mk 0 ((t.take (t.length-1)).drop 1) true [] else .mk 0 t true []).right=true:=by
 unfold tok at h
 split at h
 ·injection h with h;subst h;cases hb
 ·rename_i c u
  split at h
  ·injection h with h;subst h
   rename_i hh
   simp only [Bool.or_eq_true,beq_iff_eq] at hh
   rcases hh with hh | hh
   ·rw [hh] at hb;cases hb
   ·exact absurd hh h2
  ·split at h
   ·injection h with h;subst h
    rename_i hh
    have al:isAl c=true:=by
     cases ha:isAl c
     ·rw [ha,Bool.false_or] at hh
      have hm:c=95∨c=45∨c=124∨c=38∨c=37∨c=47∨c=126∨c=36∨c=42∨c=43∨c=63∨c=46∨c=33∨c=91∨c=93:=by simpa [sg15] using hh
      rcases hm with rfl | rfl | rfl | rfl | rfl | rfl | rfl | rfl | rfl | rfl | rfl | rfl | rfl | rfl | rfl
      all_goals first | (exact absurd hb (by decide)) | (exact absurd rfl h1) | (exact absurd rfl h3) | (exact absurd rfl h4) | (exact absurd rfl h5) | (exact absurd rfl h6)
     ·rfl
    have n1:=al_ne al (d:=92) (by decide)
    have n2:=al_ne al (d:=60) (by decide)
    have e1:(([c]:Bt).headD 0==92)=false:=by simpa using n1
    have e2:(([c]:Bt).headD 0==60)=false:=by simpa using n2
    rw [e1,e2]
    simp only [Bool.false_eq_true,if_false]
    refine right_sym ?_ (by simp) (by simp)
    have n3:=al_ne al (d:=62) (by decide)
    unfold isAl at al
    simp only [Bool.or_eq_true,Bool.and_eq_true,decide_eq_true_eq] at al
    simp only [List.all_cons,List.all_nil,Bool.and_true]
    unfold isSig
    have m2:(c.toNat:Int)≠60:=fun e=>n2 (UInt8.toNat_inj.1 (by show c.toNat=60;omega))
    have m3:(c.toNat:Int)≠62:=fun e=>n3 (UInt8.toNat_inj.1 (by show c.toNat=62;omega))
    simp only [Bool.and_eq_true,decide_eq_true_eq,bne_iff_ne,ne_eq]
    exact ⟨⟨⟨by omega,by omega⟩,m2⟩,m3⟩
   ·split at h
    ·injection h with h;subst h
     rename_i hh
     simp only [Bool.and_eq_true,beq_iff_eq] at hh
     obtain ⟨⟨⟨g1,g2⟩,g3⟩,g4⟩:=hh
     subst g1
     cases u with
     | nil=>simp at g2
     | cons d u =>
      have e1:(((92::d::u).take 2).headD 0==92)=true:=rfl
      rw [e1]
      simp only [if_true]
      refine right_sym ?_ (by simp) (by simp)
      simpa using g3
    ·split at h
     ·injection h with h;subst h
      rename_i hh
      simp only [Bool.and_eq_true,beq_iff_eq] at hh
      obtain ⟨g1,g2⟩:=hh
      subst g1
      have g2':=g2
      unfold angOk at g2
      simp only [Bool.and_eq_true,decide_eq_true_eq,beq_iff_eq] at g2
      obtain ⟨⟨⟨q3,q17⟩,qlt⟩,q62⟩:=g2
      have hn:angN (60::u)=1+(u.takeWhile isSig).length:=rfl
      have hw:u.take (u.takeWhile isSig).length=u.takeWhile isSig:=(List.prefix_iff_eq_take.1 (List.takeWhile_prefix (l:=u) isSig)).symm
      have hall:=List.all_takeWhile (l:=u) (p:=isSig)
      rw [hn] at q3 q17 qlt q62 ⊢
      generalize hk:(u.takeWhile isSig).length=k at *
      have hl:((60::u).take (1+k+1)).length=1+k+1:=by rw [List.length_take];omega
      have e0:((60::u).take (1+k+1)).headD 0=60:=by rw [show 1+k+1=(k+1)+1 by omega,List.take_succ_cons];rfl
      rw [e0,hl]
      have e1:((60:UInt8)==92)=false:=by decide
      rw [e1]
      simp only [Bool.false_eq_true,if_false,beq_self_eq_true,if_true]
      have e2:(((60::u).take (1+k+1)).take (1+k+1-1)).drop 1=u.takeWhile isSig:=by
       rw [List.take_take,show min (1+k+1-1) (1+k+1)=k+1 by omega,List.take_succ_cons,List.drop_succ_cons,List.drop_zero,hw]
      rw [e2]
      exact right_sym hall (by omega) (by omega)
     ·cases h
def Md.isAt:Md→Bool
 | .atom=>true
 | _=>false
def Md.rt:Md→Prop
 | .left op _ nx=>(op=7∨op=13∨op=15)∧(nx.rt∧nx.isAt=false)
 | .leftL op _ nx a=>(op=7∨op=13∨op=15)∧(nx.rt∧nx.isAt=false)∧a.right=true
 | .all op _ nx=>(op=5∨op=6)∧(nx.rt∧nx.isAt=false)
 | .allL op _ nx l=>(op=5∨op=6)∧(nx.rt∧nx.isAt=false)∧rights l=true
 | .chainL l=>rights l=true
 | .postL a=>a.right=true
 | _=>True
theorem pe_right:∀ (n:Nat) (md:Md) (s:Bt) (p:Nat) (x:Ex × Nat),md.sgn=true→md.rt→(md.isAt=true→∀ t,tkn s p=.ok t→t.1≠[126]∧t.1≠[36])→pe n md s p=.ok x→p≤s.length→x.1.right=true
 | 0,md,s,p,x,_,_,_,h,hp=>by simp [pe] at h
 | n+1,md,s,p,x,hsg,hr,hat,h,hp=>by
  have ih:∀ {md:Md} {s:Bt} {p:Nat} {x:Ex × Nat},pe n md s p=.ok x→p≤s.length→md.sgn=true→md.rt→(md.isAt=true→∀ t,tkn s p=.ok t→t.1≠[126]∧t.1≠[36])→x.1.right=true:=fun h hp a b c=>pe_right n _ _ _ _ a b c h hp
  have no:∀ {s:Bt} {p:Nat},false=true→∀ t,tkn s p=.ok t→t.1≠[126]∧t.1≠[36]:=fun e=>nomatch e
  cases md with
  | only =>
   simp only [pe] at h
   obtain ⟨a,ha,h⟩:=z0Q h
   obtain ⟨y,hy,h⟩:=z0Q h
   obtain ⟨a1,a2,a3,a4⟩:=pe_ok _ _ _ _ _ rfl ha hp
   obtain ⟨y1,y2,y3⟩:=z2S hy a2
   have ra:=ih ha hp rfl trivial no
   split at h
   ·obtain ⟨t,ht,h⟩:=z0Q h
    obtain ⟨t1,t2,_,_⟩:=z2F ht y2
    obtain ⟨l,hl,h⟩:=z0Q h
    have hl':l.2≤s.length∧l.1.right=true:=by
     split at hl
     ·injection hl with hl;subst hl;exact ⟨by simp only;omega,rfl⟩
     ·obtain ⟨b1,b2,b3,b4⟩:=pe_ok _ _ _ _ _ rfl hl (by omega)
      exact ⟨b2,ih hl (by omega) rfl trivial no⟩
    obtain ⟨l2,l3⟩:=hl'
    obtain ⟨z,hz,h⟩:=z0Q h
    obtain ⟨z1,z2,z3⟩:=z2S hz l2
    split at h
    ·obtain ⟨u,hu,h⟩:=z0Q h
     obtain ⟨u1,u2,_,_⟩:=z2F hu z2
     obtain ⟨r,hr,h⟩:=z0Q h
     have hr':r.1.right=true:=by
      split at hr
      ·injection hr with hr;subst hr;rfl
      ·exact ih hr (by omega) rfl trivial no
     injection h with h;subst h
     exact right_nd (by simp [rights,ra,l3,hr']) rfl (by decide)
    ·cases h
   ·injection h with h;subst h;exact ra
  | but=>simp only [pe] at h;exact ih h hp rfl ⟨.inl rfl,trivial,rfl⟩ no
  | or=>simp only [pe] at h;exact ih h hp rfl ⟨.inl rfl,trivial,rfl⟩ no
  | and=>simp only [pe] at h;exact ih h hp rfl ⟨.inr rfl,trivial,rfl⟩ no
  | shuffle=>simp only [pe] at h;exact ih h hp rfl ⟨.inr (.inr rfl),trivial,rfl⟩ no
  | ignore=>simp only [pe] at h;exact ih h hp rfl ⟨.inr (.inl rfl),trivial,rfl⟩ no
  | left op sg nx =>
   simp only [Md.sgn,Bool.and_eq_true] at hsg
   simp only [pe] at h
   obtain ⟨a,ha,h⟩:=z0Q h
   obtain ⟨a1,a2,a3,a4⟩:=pe_ok _ _ _ _ _ hsg.1.2 ha hp
   exact ih (md:=(.leftL op sg nx a.1)) h a2 (by simp only [Md.sgn,Bool.and_eq_true];exact hsg) ⟨hr.1,hr.2,ih ha hp hsg.1.2 hr.2.1 (by rw [hr.2.2];exact no)⟩ no
  | leftL op sg nx a =>
   have hsg':=hsg
   simp only [Md.sgn,Bool.and_eq_true] at hsg
   simp only [pe] at h
   obtain ⟨y,hy,h⟩:=z0Q h
   obtain ⟨y1,y2,y3⟩:=z2S hy hp
   split at h
   ·obtain ⟨b,hb,h⟩:=z0Q h
    obtain ⟨b1,b2,b3,b4⟩:=pe_ok _ _ _ _ _ hsg.1.2 hb y2
    exact ih (md:=(.leftL op sg nx (nd op [a,b.1]))) h b2 hsg' ⟨hr.1,hr.2.1,right_two hr.1 hr.2.2 (ih hb y2 hsg.1.2 hr.2.1.1 (by rw [hr.2.1.2];exact no))⟩ no
   ·injection h with h;subst h;exact hr.2.2
  | all op sg nx =>
   simp only [Md.sgn,Bool.and_eq_true] at hsg
   simp only [pe] at h
   obtain ⟨a,ha,h⟩:=z0Q h
   obtain ⟨a1,a2,a3,a4⟩:=pe_ok _ _ _ _ _ hsg.1.2 ha hp
   exact ih (md:=(.allL op sg nx [a.1])) h a2 (by simp only [Md.sgn,Bool.and_eq_true];exact ⟨hsg,rfl⟩) ⟨hr.1,hr.2,by simp [rights,ih ha hp hsg.1.2 hr.2.1 (by rw [hr.2.2];exact no)]⟩ no
  | allL op sg nx l =>
   simp only [Md.sgn,Bool.and_eq_true] at hsg
   simp only [pe] at h
   obtain ⟨y,hy,h⟩:=z0Q h
   obtain ⟨y1,y2,y3⟩:=z2S hy hp
   split at h
   ·obtain ⟨b,hb,h⟩:=z0Q h
    obtain ⟨b1,b2,b3,b4⟩:=pe_ok _ _ _ _ _ hsg.1.1.2 hb y2
    exact ih (md:=(.allL op sg nx (l++[b.1]))) h b2 (by simp only [Md.sgn,Bool.and_eq_true];exact ⟨hsg.1,by simp⟩) ⟨hr.1,hr.2.1,by rw [rights_app,hr.2.2];simp [rights,ih hb y2 hsg.1.1.2 hr.2.1.1 (by rw [hr.2.1.2];exact no)]⟩ no
   ·injection h with h;subst h
    exact right_oneOr (by rcases hr.1 with h | h<;>simp [h]) hr.2.2 (by rintro rfl;simp at hsg)
  | chain =>
   simp only [pe] at h
   obtain ⟨a,ha,h⟩:=z0Q h
   obtain ⟨a1,a2,a3,a4⟩:=pe_ok _ _ _ _ _ rfl ha hp
   exact ih (md:=(.chainL [a.1])) h a2 rfl (by simp [Md.rt,rights,ih ha hp rfl trivial no]) no
  | chainL l =>
   simp only [pe] at h
   obtain ⟨t,ht,h⟩:=z0Q h
   obtain ⟨t1,t2,_,_⟩:=z2F ht hp
   have hr:rights l=true:=hr
   split at h
   ·obtain ⟨b,hb,h⟩:=z0Q h
    obtain ⟨b1,b2,b3,b4⟩:=pe_ok _ _ _ _ _ rfl hb (by omega)
    exact ih (md:=(.chainL (l++[b.1]))) h b2 (by simp [Md.sgn]) (by show rights _=true;rw [rights_app,hr];simp [rights,ih hb (by omega) rfl trivial no]) no
   ·injection h with h;subst h
    exact right_oneOr (.inl rfl) hr (by rintro rfl;simp [Md.sgn] at hsg)
  | ahead =>
   simp only [pe] at h
   obtain ⟨t,ht,h⟩:=z0Q h
   obtain ⟨t1,t2,_,_⟩:=z2F ht hp
   split at h
   ·rename_i e
    have e:=z1X e
    simp only [List.length_cons,List.length_nil] at e
    obtain ⟨b,hb,h⟩:=z0Q h
    injection h with h;subst h
    exact right_one (by simp) (ih hb (by omega) rfl trivial no)
   ·split at h
    ·rename_i e
     have e:=z1X e
     simp only [List.length_cons,List.length_nil] at e
     obtain ⟨b,hb,h⟩:=z0Q h
     injection h with h;subst h
     exact right_one (by simp) (ih hb (by omega) rfl trivial no)
    ·rename_i n1 n2
     obtain ⟨b,hb,h⟩:=z0Q h
     obtain ⟨b1,b2,b3,b4⟩:=pe_ok _ _ _ _ _ rfl hb (by omega)
     obtain ⟨_,_,hsk,htk⟩:=z2F ht hp
     have rb:=ih hb (by omega) rfl trivial (fun _ u hu=>by
      obtain ⟨_,_,e1,e2⟩:=z2F hu (by omega)
      rw [hsk,skp_skp,←hsk] at e1
      rw [e1,htk] at e2
      injection e2 with e2
      rw [←e2]
      exact ⟨by simpa using n1,by simpa using n2⟩)
     exact ih (md:=(.postL b.1)) h b2 rfl rb no
  | postL a =>
   simp only [pe] at h
   obtain ⟨t,ht,h⟩:=z0Q h
   obtain ⟨t1,t2,_,_⟩:=z2F ht hp
   have hr:a.right=true:=hr
   have go:∀ (c:UInt8) (op:Int),(op=8∨op=9∨op=10∨op=11∨op=12)→(t.1==[c])=true→pe n (.postL (nd op [a])) s (t.2+1)=.ok x→x.1.right=true:=by
    intro c op ho e h
    have e:=z1X e
    simp only [List.length_cons,List.length_nil] at e
    exact ih h (by omega) rfl (right_one ho hr) no
   split at h
   ·rename_i e;exact go _ _ (by simp) e h
   ·split at h
    ·rename_i e;exact go _ _ (by simp) e h
    ·split at h
     ·rename_i e;exact go _ _ (by simp) e h
     ·injection h with h;subst h;exact hr
  | atom =>
   simp only [pe] at h
   obtain ⟨t,ht,h⟩:=z0Q h
   obtain ⟨t1,t2,_,htk⟩:=z2F ht hp
   obtain ⟨n5,n6⟩:=hat rfl t ht
   split at h
   ·cases h
   rename_i hb
   have hb:bgn t.1=true:=by simpa using hb
   by_cases h91:t.1=[91]
   ·rw [h91] at h t2
    simp only [List.length_cons,List.length_nil] at t2
    obtain ⟨a,ha,h⟩:=z0Q h
    have ra:=ih ha (by omega) rfl trivial no
    obtain ⟨y,hy,h⟩:=z0Q h
    split at h
    ·injection h with h;subst h;exact ra
    ·cases h
   ·split at h
    ·injection h with h;subst h;rfl
    ·rename_i n1
     split at h
     ·injection h with h;subst h;rfl
     ·rename_i n2
      split at h
      ·injection h with h;subst h;rfl
      ·rename_i n3
       have hs:=tok_sym htk hb (by simpa using n1) (by simpa using n2) (by simpa using n3) h91 n5 n6
       split at h
       ·rename_i e;exact absurd (by simpa using e) h91
       ·split at h
        ·rename_i e;rw [if_pos e] at hs;injection h with h;subst h;exact hs
        ·rename_i e1
         rw [if_neg e1] at hs
         split at h
         ·rename_i e;rw [if_pos e] at hs;injection h with h;subst h;exact hs
         ·rename_i e;rw [if_neg e] at hs;injection h with h;subst h;exact hs
theorem pe_vexpr (u:Bt) (e:Ex) (q:Nat) (h:peA .only u 0=.ok (e,q)):vexpr e=0∨vexpr e=3:=by
 have hr:=pe_right _ .only _ _ _ rfl trivial (fun e=>nomatch (show false=true from e)) h (Nat.zero_le _)
 unfold vexpr
 split
 ·exact .inr rfl
 ·rw [hr];exact .inl rfl
end Go.Ab
