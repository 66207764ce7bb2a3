/- Part 36 of the proof. -/
import Derived.Test.YtgpnlpieipoogaaGreatDoorA35
set_option linter.unusedVariables false
set_option linter.unusedSimpArgs false
namespace Go.Ab
open Go
inductive Itm:Bt→Prop
 | one (c:UInt8) (h1:c≠92) (h2:c≠60) (h3:c≠91) (h4:c≠93) (h5:c≠61) (h6:c≠95) (h7:c≠59):Itm [c]
 | esc (c:UInt8) (h:c≠32):Itm [92,c]
 | ang (w:Bt) (h:∀ x∈w,x≠62∧x≠32):Itm (60::(w++[62]))
 | none:Itm [91,93]
inductive Lin:Nat→List Bt→Nat→Prop
 | nil (d:Nat):Lin d [] d
 | item {d e:Nat} {t:Bt} {ts:List Bt} (h:Itm t) (r:Lin d ts e):Lin d (t::ts) e
 | free {d e:Nat} {t:Bt} {ts:List Bt} (h:t=[95]∨t=[61,62]) (r:Lin (d+1) ts e):Lin (d+1) (t::ts) e
 | opn {d e:Nat} {ts:List Bt} (h:∃ c r,ts.flatten=c::r∧c≠93) (r:Lin (d+1) ts e):Lin d ([91]::ts) e
 | cls {d e:Nat} {ts:List Bt} (r:Lin d ts e):Lin (d+1) ([93]::ts) e
theorem Lin.app {d e f:Nat} {a b:List Bt} (h:Lin d a e) (h2:Lin e b f):Lin d (a++b) f:=by
 induction h with
 | nil=>exact h2
 | item h _ ih=>exact .item h (ih h2)
 | free h _ ih=>exact .free h (ih h2)
 | opn h _ ih =>
  obtain ⟨c,r,h1,h3⟩:=h
  exact .opn ⟨c,r++b.flatten,by show (_++b).flatten=_;rw [List.flatten_append,h1];rfl,h3⟩ (ih h2)
 | cls _ ih=>exact .cls (ih h2)
def LinA (ts:List Bt):Prop:=∀ d,Lin d ts d
def LinO (ts:List Bt):Prop:=(∀ d,Lin (d+1) ts (d+1))∧(LinA ts∨∃ a b,ts=a++[61,62]::b∧LinA a)
theorem LinA.app {a b:List Bt} (h:LinA a) (h2:LinA b):LinA (a++b):=fun d=>(h d).app (h2 d)
theorem LinA.nil:LinA []:=fun d=>.nil d
theorem LinA.item {t:Bt} {ts:List Bt} (h:Itm t) (r:LinA ts):LinA (t::ts):=fun d=>.item h (r d)
theorem LinA.one {t:Bt} (h:Itm t):LinA [t]:=.item h .nil
theorem LinA.o {ts:List Bt} (h:LinA ts):LinO ts:=⟨fun d=>h _,.inl h⟩
def Seg (s:Bt) (p:Nat) (ts:List Bt) (q:Nat):Prop:=s.drop p=ts.flatten++s.drop q
theorem Seg.nil {s:Bt} {p:Nat}:Seg s p [] p:=rfl
theorem Seg.app {s:Bt} {p q r:Nat} {a b:List Bt} (h:Seg s p a q) (h2:Seg s q b r):Seg s p (a++b) r:=by
 unfold Seg at *
 rw [h,h2,List.flatten_append,List.append_assoc]
theorem skp_seg (s:Bt) (p:Nat):∃ ts,Seg s p ts (skp s p)∧LinA ts:=by
 unfold skp Seg
 have e:∀ l:Bt,∃ ts:List Bt,l=ts.flatten++l.drop (l.takeWhile (· == 32)).length∧LinA ts:=by
  intro l
  induction l with
  | nil=>exact ⟨[],rfl,.nil⟩
  | cons c l ih =>
   obtain ⟨ts,h1,h2⟩:=ih
   by_cases hc:(c==32)=true
   ·rw [List.takeWhile_cons_of_pos (p:=(· == 32)) hc]
    have:c=32:=by simpa using hc
    subst this
    exact ⟨[32]::ts,by simp only [List.flatten_cons,List.length_cons,List.drop_succ_cons];rw [List.append_assoc,←h1];rfl,.item (.one 32 (by decide) (by decide) (by decide) (by decide) (by decide) (by decide) (by decide)) h2⟩
   ·rw [List.takeWhile_cons_of_neg (p:=(· == 32)) hc]
    exact ⟨[],rfl,.nil⟩
 obtain ⟨ts,h1,h2⟩:=e (s.drop p)
 rw [List.drop_drop] at h1
 exact ⟨ts,h1,h2⟩
theorem isSig_ne {x:UInt8} (h:isSig x=true):x≠62∧x≠32:=by
 constructor
 ·rintro rfl;revert h;decide
 ·rintro rfl;revert h;decide
theorem al_ne {c:UInt8} (h:isAl c=true) {d:UInt8} (hd:isAl d=false):c≠d:=fun e=>by rw [e,hd] at h;cases h
theorem tok_pre {r t:Bt} (h:tok r=some t):r=t++r.drop t.length:=by
 unfold tok at h
 split at h
 ·injection h with h;subst h;rfl
 ·rename_i c u
  have tk:∀ n,(c::u)=(c::u).take n++(c::u).drop ((c::u).take n).length:=fun n=>by
   conv=>lhs;rw [←List.take_append_drop n (c::u)]
   congr 1
   rw [List.length_take]
   rcases Nat.le_total n (c::u).length with h | h
   ·rw [Nat.min_eq_left h]
   ·rw [Nat.min_eq_right h,List.drop_of_length_le h,List.drop_of_length_le (Nat.le_refl _)]
  split at h
  ·injection h with h;subst h;exact tk 2
  ·split at h
   ·injection h with h;subst h;rfl
   ·split at h
    ·injection h with h;subst h;exact tk 2
    ·split at h
     ·injection h with h;subst h;exact tk _
     ·cases h
theorem ang_item {r:Bt} (h0:r.headD 0=60) (h:angOk r=true):Itm (r.take (angN r+1)):=by
 unfold angOk at h
 simp only [Bool.and_eq_true,decide_eq_true_eq,beq_iff_eq] at h
 obtain ⟨⟨⟨h3,h17⟩,hlt⟩,h62⟩:=h
 cases r with
 | nil=>simp at hlt
 | cons c t =>
  have hc:c=60:=by simpa using h0
  subst hc
  have hn:angN (60::t)=1+(t.takeWhile isSig).length:=rfl
  rw [hn] at hlt h62 ⊢
  generalize hw:t.takeWhile isSig=w at *
  have e1:t.take w.length=w:=by
   have:=List.prefix_iff_eq_take.1 (List.takeWhile_prefix (l:=t) isSig)
   rw [hw] at this;exact this.symm
  have hl:w.length<t.length:=by simp at hlt;omega
  have e2:t.getD w.length 0=62:=by
   rw [Nat.add_comm] at h62
   simpa using h62
  have e3:t.take (w.length+1)=w++[62]:=by
   rw [List.take_add_one,e1,List.getElem?_eq_getElem hl]
   rw [List.getD_eq_getElem?_getD,List.getElem?_eq_getElem hl] at e2
   have e2:t[w.length]=62:=e2
   rw [e2];rfl
  have e4:(60::t).take (1+w.length+1)=60::(w++[62]):=by
   rw [show 1+w.length+1=(w.length+1)+1 by omega,List.take_succ_cons,e3]
  rw [e4]
  refine .ang w fun x hx=>isSig_ne ?_
  rw [←hw] at hx
  exact (List.all_eq_true.1 (List.all_takeWhile (l:=t) (p:=isSig))) x hx
theorem tok_cases {r t:Bt} (h:tok r=some t):t=[]∨Itm t∨t=[61,62]∨t=[95]∨(t=[91]∧(r.drop 1).headD 0≠93)∨t=[93]:=by
 unfold tok at h
 split at h
 ·injection h with h;exact .inl h.symm
 ·rename_i c u
  split at h
  ·injection h with h;subst h
   rename_i hh
   simp only [Bool.or_eq_true,beq_iff_eq] at hh
   rcases hh with hh | hh
   ·exact .inr (.inr (.inl hh))
   ·rw [hh];exact .inr (.inl .none)
  ·rename_i hno
   simp only [Bool.or_eq_true,beq_iff_eq,not_or] at hno
   split at h
   ·injection h with h;subst h
    rename_i hh
    by_cases ha:isAl c=true
    ·exact .inr (.inl (.one c (al_ne ha (by decide)) (al_ne ha (by decide)) (al_ne ha (by decide)) (al_ne ha (by decide)) (al_ne ha (by decide)) (al_ne ha (by decide)) (al_ne ha (by decide))))
    ·have hs:sg15.contains c=true:=by
      rcases (Bool.or_eq_true _ _ ▸ hh) with hh | hh
      ·exact absurd hh ha
      ·exact hh
     have hm:c=95∨c=45∨c=124∨c=38∨c=37∨c=47∨c=126∨c=36∨c=42∨c=43∨c=63∨c=46∨c=33∨c=91∨c=93:=by simpa [sg15] using hs
     clear hs hh ha
     have one:∀ {c:UInt8},(c≠92∧c≠60∧c≠91∧c≠93∧c≠61∧c≠95∧c≠59)→Itm [c]:=fun h=>.one _ h.1 h.2.1 h.2.2.1 h.2.2.2.1 h.2.2.2.2.1 h.2.2.2.2.2.1 h.2.2.2.2.2.2
     rcases hm with rfl | rfl | rfl | rfl | rfl | rfl | rfl | rfl | rfl | rfl | rfl | rfl | rfl | rfl | rfl
     ·exact .inr (.inr (.inr (.inl rfl)))
     ·exact .inr (.inl (one (by decide)))
     ·exact .inr (.inl (one (by decide)))
     ·exact .inr (.inl (one (by decide)))
     ·exact .inr (.inl (one (by decide)))
     ·exact .inr (.inl (one (by decide)))
     ·exact .inr (.inl (one (by decide)))
     ·exact .inr (.inl (one (by decide)))
     ·exact .inr (.inl (one (by decide)))
     ·exact .inr (.inl (one (by decide)))
     ·exact .inr (.inl (one (by decide)))
     ·exact .inr (.inl (one (by decide)))
     ·exact .inr (.inl (one (by decide)))
     ·refine .inr (.inr (.inr (.inr (.inl ⟨rfl,?_⟩))))
      intro he
      cases u with
      | nil=>simp at he
      | cons d u =>
       have:d=93:=by simpa using he
       subst this
       exact hno.2 rfl
     ·exact .inr (.inr (.inr (.inr (.inr rfl))))
   ·split at h
    ·injection h with h;subst h
     rename_i hh
     simp only [Bool.and_eq_true,beq_iff_eq] at hh
     obtain ⟨⟨⟨h1,h2⟩,h3⟩,h4⟩:=hh
     subst h1
     cases u with
     | nil=>simp at h2
     | cons d u =>
      exact .inr (.inl (.esc d (isSig_ne (x:=d) (by simpa using h3)).2))
    ·split at h
     ·injection h with h;subst h
      rename_i hh
      simp only [Bool.and_eq_true,beq_iff_eq] at hh
      exact .inr (.inl (ang_item (by simpa using hh.1) hh.2))
     ·cases h
theorem z4A {s:Bt} {p:Nat} {t:Bt × Nat} (h:tkn s p=.ok t) (hp:p≤s.length):(∃ ts,Seg s p ts t.2∧LinA ts)∧Seg s t.2 [t.1] (t.2+t.1.length)∧t.2=skp s p∧tok (s.drop t.2)=some t.1:=by
 obtain ⟨_,_,h3,h4⟩:=z2U h hp
 refine ⟨by rw [h3];exact skp_seg s p,?_,h3,h4⟩
 have:=tok_pre h4
 rw [List.drop_drop] at this
 unfold Seg
 simpa using this
theorem tak_seg {s u:Bt} {p:Nat} {y:Bool × Nat} (h:tak u s p=.ok y) (hp:p≤s.length):(y.1=false→∃ ts,Seg s p ts y.2∧LinA ts) ∧
  (y.1=true→∃ ts q,Seg s p ts q∧LinA ts∧Seg s q [u] y.2∧tok (s.drop q)=some u∧y.2=q+u.length):=by
 unfold tak at h
 obtain ⟨t,h1,h2⟩:=z0S h
 have hh:=z4A h1 hp
 obtain ⟨⟨ts,a,b⟩,c,d,e⟩:=hh
 split at h2
 ·rename_i hu
  have hu:t.1=u:=by simpa using hu
  injection h2 with h2;subst h2;subst hu
  exact ⟨fun h=>(by cases h),fun _=>⟨ts,_,a,b,c,e,rfl⟩⟩
 ·injection h2 with h2;subst h2
  exact ⟨fun _=>⟨ts,a,b⟩,fun h=>by cases h⟩
abbrev SegA (s:Bt) (p q:Nat):Prop:=∃ ts,Seg s p ts q∧LinA ts
theorem SegA.app {s:Bt} {p q r:Nat} (h:SegA s p q) (h2:SegA s q r):SegA s p r:=by
 obtain ⟨a,h1,h3⟩:=h
 obtain ⟨b,h4,h5⟩:=h2
 exact ⟨a++b,h1.app h4,h3.app h5⟩
theorem SegA.nil {s:Bt} {p:Nat}:SegA s p p:=⟨[],.nil,.nil⟩
theorem SegA.tok {s:Bt} {p q:Nat} {t:Bt} (h:Seg s p [t] q) (ht:Itm t):SegA s p q:=⟨[t],h,.one ht⟩
def Md.it:Md→Prop
 | .left _ sg nx=>Itm sg∧nx.it
 | .all _ sg nx=>Itm sg∧nx.it
 | .leftL _ sg nx _=>Itm sg∧nx.it
 | .allL _ sg nx _=>Itm sg∧nx.it
 | .only=>False
 | _=>True
abbrev SegO (s:Bt) (p q:Nat):Prop:=∃ ts,Seg s p ts q∧LinO ts
theorem SegA.o {s:Bt} {p q:Nat} (h:SegA s p q):SegO s p q:=by
 obtain ⟨a,h1,h3⟩:=h
 exact ⟨a,h1,h3.o⟩
theorem SegA.tak {s u:Bt} {p:Nat} {y:Bool × Nat} (h:tak u s p=.ok y) (hp:p≤s.length) (hu:Itm u):SegA s p y.2:=by
 obtain ⟨h1,h2⟩:=tak_seg h hp
 cases hy:y.1
 ·exact h1 hy
 ·obtain ⟨ts,q,a,b,c,_,_⟩:=h2 hy
  exact SegA.app ⟨ts,a,b⟩ (SegA.tok c hu)
theorem i1 {c:UInt8} (h:c≠92∧c≠60∧c≠91∧c≠93∧c≠61∧c≠95∧c≠59):Itm [c]:=.one _ h.1 h.2.1 h.2.2.1 h.2.2.2.1 h.2.2.2.2.1 h.2.2.2.2.2.1 h.2.2.2.2.2.2
theorem lin_free {t:Bt} (h:t=[95]∨t=[61,62]) (d:Nat):Lin (d+1) [t] (d+1):=.free h (.nil _)
theorem pe_lin:∀ (n:Nat) (md:Md) (s:Bt) (p:Nat) (x:Ex × Nat),md.sgn=true→pe n md s p=.ok x→p≤s.length→(md.it→SegA s p x.2)∧(md=.only→SegO s p x.2)
 | 0,md,s,p,x,_,h,hp=>by simp [pe] at h
 | n+1,md,s,p,x,hsg,h,hp=>by
  have ih:=pe_lin n
  cases md with
  | only =>
   refine ⟨fun h=>h.elim,fun _=>?_⟩
   simp only [pe] at h
   obtain ⟨a,ha,h⟩:=z0S h
   obtain ⟨y,hy,h⟩:=z0S h
   obtain ⟨a1,a2,a3,a4⟩:=pe_ok _ _ _ _ _ rfl ha hp
   obtain ⟨y1,y2,y3⟩:=z3G hy a2
   have sa:=(ih _ _ _ _ rfl ha hp).1 trivial
   obtain ⟨s1,s2⟩:=tak_seg hy a2
   split at h
   ·rename_i hy1
    obtain ⟨t1,q1,g1,g2,g3,_,_⟩:=s2 hy1
    obtain ⟨t,ht,h⟩:=z0S h
    obtain ⟨l,hl,h⟩:=z0S h
    obtain ⟨k1,k2,_,_⟩:=z2U ht y2
    have st:=(z4A ht y2).1
    have hl':SegA s t.2 l.2∧t.2≤l.2∧l.2≤s.length:=by
     split at hl
     ·injection hl with hl;subst hl;exact ⟨.nil,Nat.le_refl _,by simp only;omega⟩
     ·obtain ⟨b1,b2,b3,b4⟩:=pe_ok _ _ _ _ _ rfl hl (by omega)
      exact ⟨(ih _ _ _ _ rfl hl (by omega)).1 trivial,b1,b2⟩
    obtain ⟨l1,l2,l3⟩:=hl'
    obtain ⟨z,hz,h⟩:=z0S h
    obtain ⟨z1,z2,z3⟩:=z3G hz l3
    obtain ⟨_,sz⟩:=tak_seg hz l3
    split at h
    ·rename_i hz1
     obtain ⟨t2,q2,f1,f2,f3,_,_⟩:=sz hz1
     obtain ⟨u,hu,h⟩:=z0S h
     obtain ⟨u1,u2,_,_⟩:=z2U hu z2
     have su:=(z4A hu z2).1
     obtain ⟨r,hr,h⟩:=z0S h
     have hr':SegA s u.2 r.2:=by
      split at hr
      ·injection hr with hr;subst hr;exact .nil
      ·exact (ih _ _ _ _ rfl hr (by omega)).1 trivial
     injection h with h;subst h
     obtain ⟨ta,ga,la⟩:=sa.app ⟨t1,g1,g2⟩
     obtain ⟨tb,gb,lb⟩:=(SegA.app st l1).app ⟨t2,f1,f2⟩
     obtain ⟨tc,gc,lc⟩:=SegA.app su hr'
     refine ⟨ta++([[61,62]]++(tb++([[95]]++tc))),ga.app (g3.app (gb.app (f3.app gc))),fun d=>?_,.inr ⟨ta,_,rfl,la⟩⟩
     exact (la _).app ((lin_free (.inr rfl) _).app ((lb _).app ((lin_free (.inl rfl) _).app (lc _))))
    ·cases h
   ·rename_i hy1
    injection h with h;subst h
    exact (sa.app (s1 (by simpa using hy1))).o
  | but=>simp only [pe] at h;exact ⟨fun _=>(ih _ _ _ _ rfl h hp).1 ⟨i1 (by decide),trivial⟩,fun h=>by cases h⟩
  | or=>simp only [pe] at h;exact ⟨fun _=>(ih _ _ _ _ rfl h hp).1 ⟨i1 (by decide),trivial⟩,fun h=>by cases h⟩
  | and=>simp only [pe] at h;exact ⟨fun _=>(ih _ _ _ _ rfl h hp).1 ⟨i1 (by decide),trivial⟩,fun h=>by cases h⟩
  | shuffle=>simp only [pe] at h;exact ⟨fun _=>(ih _ _ _ _ rfl h hp).1 ⟨i1 (by decide),trivial⟩,fun h=>by cases h⟩
  | ignore=>simp only [pe] at h;exact ⟨fun _=>(ih _ _ _ _ rfl h hp).1 ⟨i1 (by decide),trivial⟩,fun h=>by cases h⟩
  | left op sg nx =>
   refine ⟨fun hit=>?_,fun h=>by cases h⟩
   simp only [Md.sgn,Bool.and_eq_true] at hsg
   simp only [pe] at h
   obtain ⟨a,ha,h⟩:=z0S h
   obtain ⟨a1,a2,a3,a4⟩:=pe_ok _ _ _ _ _ hsg.1.2 ha hp
   exact ((ih _ _ _ _ hsg.1.2 ha hp).1 hit.2).app ((ih (.leftL op sg nx a.1) _ _ _ (by simp only [Md.sgn,Bool.and_eq_true];exact hsg) h a2).1 hit)
  | leftL op sg nx a =>
   refine ⟨fun hit=>?_,fun h=>by cases h⟩
   have hsg':=hsg
   simp only [Md.sgn,Bool.and_eq_true] at hsg
   simp only [pe] at h
   obtain ⟨y,hy,h⟩:=z0S h
   obtain ⟨y1,y2,y3⟩:=z3G hy hp
   have sy:=SegA.tak hy hp hit.1
   split at h
   ·obtain ⟨b,hb,h⟩:=z0S h
    obtain ⟨b1,b2,b3,b4⟩:=pe_ok _ _ _ _ _ hsg.1.2 hb y2
    exact sy.app (((ih _ _ _ _ hsg.1.2 hb y2).1 hit.2).app ((ih (.leftL op sg nx (nd op [a,b.1])) _ _ _ hsg' h b2).1 hit))
   ·injection h with h;subst h;exact sy
  | all op sg nx =>
   refine ⟨fun hit=>?_,fun h=>by cases h⟩
   simp only [Md.sgn,Bool.and_eq_true] at hsg
   simp only [pe] at h
   obtain ⟨a,ha,h⟩:=z0S h
   obtain ⟨a1,a2,a3,a4⟩:=pe_ok _ _ _ _ _ hsg.1.2 ha hp
   exact ((ih _ _ _ _ hsg.1.2 ha hp).1 hit.2).app ((ih (.allL op sg nx [a.1]) _ _ _ (by simp only [Md.sgn,Bool.and_eq_true];exact ⟨hsg,rfl⟩) h a2).1 hit)
  | allL op sg nx l =>
   refine ⟨fun hit=>?_,fun h=>by cases h⟩
   simp only [Md.sgn,Bool.and_eq_true] at hsg
   simp only [pe] at h
   obtain ⟨y,hy,h⟩:=z0S h
   obtain ⟨y1,y2,y3⟩:=z3G hy hp
   have sy:=SegA.tak hy hp hit.1
   split at h
   ·obtain ⟨b,hb,h⟩:=z0S h
    obtain ⟨b1,b2,b3,b4⟩:=pe_ok _ _ _ _ _ hsg.1.1.2 hb y2
    exact sy.app (((ih _ _ _ _ hsg.1.1.2 hb y2).1 hit.2).app ((ih (.allL op sg nx (l++[b.1])) _ _ _ (by simp only [Md.sgn,Bool.and_eq_true];exact ⟨hsg.1,by simp⟩) h b2).1 hit))
   ·injection h with h;subst h;exact sy
  | chain =>
   refine ⟨fun hit=>?_,fun h=>by cases h⟩
   simp only [pe] at h
   obtain ⟨a,ha,h⟩:=z0S h
   obtain ⟨a1,a2,a3,a4⟩:=pe_ok _ _ _ _ _ rfl ha hp
   exact ((ih _ _ _ _ rfl ha hp).1 trivial).app ((ih (.chainL [a.1]) _ _ _ rfl h a2).1 trivial)
  | chainL l =>
   refine ⟨fun hit=>?_,fun h=>by cases h⟩
   simp only [pe] at h
   obtain ⟨t,ht,h⟩:=z0S h
   obtain ⟨t1,t2,_,_⟩:=z2U ht hp
   have st:=(z4A ht hp).1
   split at h
   ·obtain ⟨b,hb,h⟩:=z0S h
    obtain ⟨b1,b2,b3,b4⟩:=pe_ok _ _ _ _ _ rfl hb (by omega)
    exact SegA.app st (((ih _ _ _ _ rfl hb (by omega)).1 trivial).app ((ih (.chainL (l++[b.1])) _ _ _ (by simp [Md.sgn]) h b2).1 trivial))
   ·injection h with h;subst h;exact st
  | ahead =>
   refine ⟨fun hit=>?_,fun h=>by cases h⟩
   simp only [pe] at h
   obtain ⟨t,ht,h⟩:=z0S h
   obtain ⟨t1,t2,_,_⟩:=z2U ht hp
   obtain ⟨st,sq,_,_⟩:=z4A ht hp
   split at h
   ·rename_i e
    have e:t.1=[126]:=by simpa using e
    rw [e] at sq t2
    simp only [List.length_cons,List.length_nil] at t2
    obtain ⟨b,hb,h⟩:=z0S h
    injection h with h;subst h
    exact SegA.app st (SegA.app (SegA.tok sq (i1 (by decide))) ((ih _ _ _ _ rfl hb (by omega)).1 trivial))
   ·split at h
    ·rename_i e
     have e:t.1=[36]:=by simpa using e
     rw [e] at sq t2
     simp only [List.length_cons,List.length_nil] at t2
     obtain ⟨b,hb,h⟩:=z0S h
     injection h with h;subst h
     exact SegA.app st (SegA.app (SegA.tok sq (i1 (by decide))) ((ih _ _ _ _ rfl hb (by omega)).1 trivial))
    ·obtain ⟨b,hb,h⟩:=z0S h
     obtain ⟨b1,b2,b3,b4⟩:=pe_ok _ _ _ _ _ rfl hb (by omega)
     exact SegA.app st (((ih _ _ _ _ rfl hb (by omega)).1 trivial).app ((ih (.postL b.1) _ _ _ rfl h b2).1 trivial))
  | postL a =>
   refine ⟨fun hit=>?_,fun h=>by cases h⟩
   simp only [pe] at h
   obtain ⟨t,ht,h⟩:=z0S h
   obtain ⟨t1,t2,_,_⟩:=z2U ht hp
   obtain ⟨st,sq,_,_⟩:=z4A ht hp
   have go:∀ (c:UInt8) (y:Ex),Itm [c]→(t.1==[c])=true→pe n (.postL y) s (t.2+1)=.ok x→SegA s p x.2:=by
    intro c y hc e h
    have e:t.1=[c]:=by simpa using e
    rw [e] at sq t2
    simp only [List.length_cons,List.length_nil] at t2
    exact SegA.app st (SegA.app (SegA.tok sq hc) ((ih _ _ _ _ rfl h (by omega)).1 trivial))
   split at h
   ·rename_i e;exact go _ _ (i1 (by decide)) e h
   ·split at h
    ·rename_i e;exact go _ _ (i1 (by decide)) e h
    ·split at h
     ·rename_i e;exact go _ _ (i1 (by decide)) e h
     ·injection h with h;subst h;exact st
  | atom =>
   refine ⟨fun hit=>?_,fun h=>by cases h⟩
   simp only [pe] at h
   obtain ⟨t,ht,h⟩:=z0S h
   obtain ⟨t1,t2,_,_⟩:=z2U ht hp
   obtain ⟨st,sq,_,htk⟩:=z4A ht hp
   split at h
   ·cases h
   rename_i hb
   have hb:bgn t.1=true:=by simpa using hb
   by_cases h91:t.1=[91]
   ·rw [h91] at h sq t2 htk
    simp only [List.length_cons,List.length_nil] at t2
    obtain ⟨a,ha,h⟩:=z0S h
    obtain ⟨a1,a2,a3,a4⟩:=pe_ok _ _ _ _ _ rfl ha (by omega)
    have a4:=a4 rfl
    obtain ⟨ti,gi,li,_⟩:=(ih _ _ _ _ rfl ha (by omega)).2 rfl
    obtain ⟨y,hy,h⟩:=z0S h
    obtain ⟨_,sy⟩:=tak_seg hy a2
    split at h
    ·rename_i hy1
     obtain ⟨tj,q,gj,lj,gk,_,hq⟩:=sy hy1
     injection h with h;subst h
     refine SegA.app st ⟨[[91]]++(ti++(tj++[[93]])),sq.app (gi.app (gj.app gk)),fun d=>?_⟩
     refine .opn ?_ ((li d).app ((lj (d+1)).app (.cls (.nil d))))
     have hne:ti.flatten≠[]:=by
      intro e
      unfold Seg at gi
      rw [e] at gi
      have:=congrArg List.length gi
      simp only [List.nil_append,List.length_drop] at this
      omega
     cases hti:ti.flatten with
     | nil=>exact absurd hti hne
     | cons c r =>
      refine ⟨c,r++(tj++[[93]]).flatten,by show (ti++(tj++[[93]])).flatten=_;rw [List.flatten_append,hti];rfl,?_⟩
      rcases tok_cases htk with h | h | h | h | h | h
      ·cases h
      ·cases h;rename_i h3 _ _ _ _;exact absurd rfl h3
      ·cases h
      ·cases h
      ·have h2:=h.2
       rw [List.drop_drop] at h2
       unfold Seg at gi
       rw [gi,hti] at h2
       exact h2
      ·cases h
    ·cases h
   ·have hI:Itm t.1:=by
     rcases tok_cases htk with h | h | h | h | h | h
     ·rw [h] at hb;cases hb
     ·exact h
     ·rw [h] at hb;cases hb
     ·rw [h] at hb;cases hb
     ·exact absurd h.1 h91
     ·rw [h] at hb;cases hb
    have done:∀ k,k=t.1.length→SegA s p (t.2+k):=fun k hk=>by rw [hk];exact SegA.app st (SegA.tok sq hI)
    split at h
    ·rename_i e;injection h with h;subst h;exact done _ (z2Q e).symm
    ·split at h
     ·rename_i e;injection h with h;subst h;exact done _ (z2Q e).symm
     ·split at h
      ·rename_i e;injection h with h;subst h;exact done _ (z2Q e).symm
      ·split at h
       ·rename_i e;exact absurd (by simpa using e) h91
       ·split at h
        ·injection h with h;subst h;exact done _ rfl
        ·split at h
         ·injection h with h;subst h;exact done _ rfl
         ·injection h with h;subst h;exact done _ rfl
end Go.Ab
