/- Part 35 of the proof. -/
import Derived.Test.YtgpnlpieipoogaaGreatDoorA34
set_option linter.unusedVariables false
set_option linter.unusedSimpArgs false
namespace Go.Ab
open Go
theorem z0S {α β:Type} {x:PR α} {f:α→PR β} {b:β} (h:x.bind f=.ok b):∃ a,x=.ok a∧f a=.ok b:=by
 cases x with
 | oof=>cases h
 | bad=>cases h
 | ok a=>exact ⟨a,rfl,h⟩
theorem z2U {s:Bt} {p:Nat} {t:Bt × Nat} (h:tkn s p=.ok t) (hp:p≤s.length):p≤t.2∧t.2+t.1.length≤s.length∧t.2=skp s p∧tok (s.drop t.2)=some t.1:=by
 unfold tkn at h
 split at h
 ·cases h
 ·rename_i u hu
  injection h with h;subst h
  have h1:=tok_len hu
  rw [List.length_drop] at h1
  have h2:=skp_ge s p
  have h3:=skp_le hp
  exact ⟨h2,by simp only;omega,rfl,hu⟩
theorem z3G {s t:Bt} {p:Nat} {y:Bool × Nat} (h:tak t s p=.ok y) (hp:p≤s.length):p≤y.2∧y.2≤s.length∧(y.1=true→p+t.length≤y.2):=by
 unfold tak at h
 obtain ⟨u,h1,h2⟩:=z0S h
 obtain ⟨a,b,_,_⟩:=z2U h1 hp
 split at h2
 ·rename_i e
  have e:u.1=t:=by simpa using e
  injection h2 with h2;subst h2;subst e
  exact ⟨by simp only;omega,by simp only;omega,fun _=>by simp only;omega⟩
 ·injection h2 with h2;subst h2
  exact ⟨by simp only;omega,by simp only;omega,fun h=>by cases h⟩
def Md.fn:Md→Bool
 | .leftL .. | .allL .. | .chainL .. | .postL .. => false
 | _=>true
def Md.wt:Md→Nat
 | .leftL _ _ _ a=>a.w+1
 | .postL a=>a.w+1
 | .allL _ _ _ l=>ws l+l.length
 | .chainL l=>ws l+l.length
 | _=>0
def Md.sgn:Md→Bool
 | .left _ sg nx=>(sg.length==1)&&nx.sgn&&nx.fn
 | .all _ sg nx=>(sg.length==1)&&nx.sgn&&nx.fn
 | .leftL _ sg nx _=>(sg.length==1)&&nx.sgn&&nx.fn
 | .allL _ sg nx l=>(sg.length==1)&&nx.sgn&&nx.fn && !l.isEmpty
 | .chainL l=>!l.isEmpty
 | _=>true
theorem oneOr_w (op:Int) {l:List Ex} (h:l≠[]):(oneOr op l).w+1≤ws l+l.length:=by
 match l,h with
 | [x],_=>simp [oneOr,ws]
 | x::y::l,_=>simp [oneOr,nd,Ex.w];omega
theorem ws_app (a b:List Ex):ws (a++b)=ws a+ws b:=by
 induction a with
 | nil=>simp [ws]
 | cons x xs ih=>simp only [List.cons_append,ws,ih];omega
theorem tok_pos {t:Bt} (h:bgn t=true):1≤t.length:=by
 cases t with
 | nil=>simp [bgn] at h
 | cons=>simp
abbrev PeOk (md:Md) (s:Bt) (p:Nat) (x:Ex × Nat):Prop:=p≤x.2∧x.2≤s.length∧x.1.w+1≤md.wt+3*(x.2-p)∧(md.fn=true→p+1≤x.2)
theorem z2Q {t u:Bt} (h:(t==u)=true):t.length=u.length:=by rw [beq_iff_eq] at h;rw [h]
theorem pe_ok:∀ (n:Nat) (md:Md) (s:Bt) (p:Nat) (x:Ex × Nat),md.sgn=true→pe n md s p=.ok x→p≤s.length→PeOk md s p x
 | 0,md,s,p,x,_,h,hp=>by simp [pe] at h
 | n+1,md,s,p,x,hsg,h,hp=>by
  have ih:=pe_ok n
  cases md with
  | only =>
   simp only [pe] at h
   obtain ⟨a,ha,h⟩:=z0S h
   obtain ⟨y,hy,h⟩:=z0S h
   obtain ⟨a1,a2,a3,a4⟩:=ih _ _ _ _ rfl ha hp
   have a4:=a4 rfl
   obtain ⟨y1,y2,y3⟩:=z3G hy a2
   simp only [PeOk,Md.wt] at a3 ⊢
   split at h
   ·rename_i hy1
    have y3:=y3 hy1
    simp only [List.length_cons,List.length_nil] at y3
    obtain ⟨t,ht,h⟩:=z0S h
    obtain ⟨t1,t2,_,_⟩:=z2U ht y2
    obtain ⟨l,hl,h⟩:=z0S h
    have hl':t.2≤l.2∧l.2≤s.length∧l.1.w≤3*(l.2-t.2)+1:=by
     split at hl
     ·injection hl with hl;subst hl;exact ⟨Nat.le_refl _,by simp only;omega,by simp [lf,Ex.w,ws]⟩
     ·obtain ⟨b1,b2,b3,b4⟩:=ih _ _ _ _ rfl hl (by omega)
      simp only [PeOk,Md.wt] at b3
      exact ⟨b1,b2,by omega⟩
    obtain ⟨l1,l2,l3⟩:=hl'
    obtain ⟨z,hz,h⟩:=z0S h
    obtain ⟨z1,z2,z3⟩:=z3G hz l2
    split at h
    ·rename_i hz1
     have z3:=z3 hz1
     simp only [List.length_cons,List.length_nil] at z3
     obtain ⟨u,hu,h⟩:=z0S h
     obtain ⟨u1,u2,_,_⟩:=z2U hu z2
     obtain ⟨r,hr,h⟩:=z0S h
     have hr':u.2≤r.2∧r.2≤s.length∧r.1.w≤3*(r.2-u.2)+1:=by
      split at hr
      ·injection hr with hr;subst hr;exact ⟨Nat.le_refl _,by simp only;omega,by simp [lf,Ex.w,ws]⟩
      ·obtain ⟨b1,b2,b3,b4⟩:=ih _ _ _ _ rfl hr (by omega)
       simp only [PeOk,Md.wt] at b3
       exact ⟨b1,b2,by omega⟩
     obtain ⟨r1,r2,r3⟩:=hr'
     injection h with h;subst h
     simp only [PeOk,nd,Ex.w,ws,List.length_nil]
     exact ⟨by omega,by omega,by omega,fun _=>by omega⟩
    ·cases h
   ·injection h with h;subst h
    simp only [PeOk,Md.wt]
    exact ⟨by omega,by omega,by omega,fun _=>by omega⟩
  | but=>simp only [pe] at h;have r:=ih _ _ _ _ rfl h hp;exact r
  | or=>simp only [pe] at h;have r:=ih _ _ _ _ rfl h hp;exact r
  | and=>simp only [pe] at h;have r:=ih _ _ _ _ rfl h hp;exact r
  | shuffle=>simp only [pe] at h;have r:=ih _ _ _ _ rfl h hp;exact r
  | ignore=>simp only [pe] at h;have r:=ih _ _ _ _ rfl h hp;exact r
  | left op sg nx =>
   simp only [Md.sgn,Bool.and_eq_true] at hsg
   simp only [pe] at h
   obtain ⟨a,ha,h⟩:=z0S h
   obtain ⟨a1,a2,a3,a4⟩:=ih _ _ _ _ hsg.1.2 ha hp
   have a4:=a4 hsg.2
   have hw0:nx.wt=0:=by have:=hsg.2;cases nx<;>first | rfl | cases this
   obtain ⟨b1,b2,b3,b4⟩:=ih (.leftL op sg nx a.1) _ _ _ (by simp only [Md.sgn,Bool.and_eq_true];exact hsg) h a2
   simp only [PeOk,Md.wt] at b3 ⊢
   exact ⟨by omega,b2,by omega,fun _=>by omega⟩
  | leftL op sg nx a =>
   have hsg':=hsg
   simp only [Md.sgn,Bool.and_eq_true,beq_iff_eq] at hsg
   simp only [pe] at h
   obtain ⟨y,hy,h⟩:=z0S h
   obtain ⟨y1,y2,y3⟩:=z3G hy hp
   have hw0:nx.wt=0:=by have:=hsg.2;cases nx<;>first | rfl | cases this
   split at h
   ·rename_i hy1
    have y3:=y3 hy1
    rw [hsg.1.1] at y3
    obtain ⟨b,hb,h⟩:=z0S h
    obtain ⟨b1,b2,b3,b4⟩:=ih _ _ _ _ hsg.1.2 hb y2
    obtain ⟨d1,d2,d3,d4⟩:=ih (.leftL op sg nx (nd op [a,b.1])) _ _ _ hsg' h b2
    simp only [PeOk,Md.wt,nd,Ex.w,ws,List.length_nil] at d3 ⊢
    exact ⟨by omega,d2,by omega,fun h=>by cases h⟩
   ·injection h with h;subst h
    simp only [PeOk,Md.wt]
    exact ⟨y1,y2,by omega,fun h=>by cases h⟩
  | all op sg nx =>
   simp only [Md.sgn,Bool.and_eq_true] at hsg
   simp only [pe] at h
   obtain ⟨a,ha,h⟩:=z0S h
   obtain ⟨a1,a2,a3,a4⟩:=ih _ _ _ _ hsg.1.2 ha hp
   have a4:=a4 hsg.2
   have hw0:nx.wt=0:=by have:=hsg.2;cases nx<;>first | rfl | cases this
   obtain ⟨b1,b2,b3,b4⟩:=ih (.allL op sg nx [a.1]) _ _ _ (by simp only [Md.sgn,Bool.and_eq_true];exact ⟨hsg,rfl⟩) h a2
   simp only [PeOk,Md.wt,ws,List.length_cons,List.length_nil] at b3 ⊢
   exact ⟨by omega,b2,by omega,fun _=>by omega⟩
  | allL op sg nx l =>
   simp only [Md.sgn,Bool.and_eq_true,beq_iff_eq] at hsg
   have hne:l≠[]:=by have:=hsg.2;intro e;subst e;cases this
   simp only [pe] at h
   obtain ⟨y,hy,h⟩:=z0S h
   obtain ⟨y1,y2,y3⟩:=z3G hy hp
   have hw0:nx.wt=0:=by have:=hsg.1.2;cases nx<;>first | rfl | cases this
   split at h
   ·rename_i hy1
    have y3:=y3 hy1
    rw [hsg.1.1.1] at y3
    obtain ⟨b,hb,h⟩:=z0S h
    obtain ⟨b1,b2,b3,b4⟩:=ih _ _ _ _ hsg.1.1.2 hb y2
    obtain ⟨d1,d2,d3,d4⟩:=ih (.allL op sg nx (l++[b.1])) _ _ _ (by
     simp only [Md.sgn,Bool.and_eq_true,beq_iff_eq]
     exact ⟨⟨⟨hsg.1.1.1,hsg.1.1.2⟩,hsg.1.2⟩,by cases l<;>rfl⟩) h b2
    simp only [PeOk,Md.wt,ws_app,ws,List.length_append,List.length_cons,List.length_nil] at d3 ⊢
    exact ⟨by omega,d2,by omega,fun h=>by cases h⟩
   ·injection h with h;subst h
    have:=oneOr_w op hne
    simp only [PeOk,Md.wt]
    exact ⟨y1,y2,by omega,fun h=>by cases h⟩
  | chain =>
   simp only [pe] at h
   obtain ⟨a,ha,h⟩:=z0S h
   obtain ⟨a1,a2,a3,a4⟩:=ih _ _ _ _ rfl ha hp
   have a4:=a4 rfl
   obtain ⟨b1,b2,b3,b4⟩:=ih (.chainL [a.1]) _ _ _ rfl h a2
   simp only [PeOk,Md.wt,ws,List.length_cons,List.length_nil] at a3 b3 ⊢
   exact ⟨by omega,b2,by omega,fun _=>by omega⟩
  | chainL l =>
   have hne:l≠[]:=by intro e;subst e;cases hsg
   simp only [pe] at h
   obtain ⟨t,ht,h⟩:=z0S h
   obtain ⟨t1,t2,_,_⟩:=z2U ht hp
   split at h
   ·obtain ⟨b,hb,h⟩:=z0S h
    obtain ⟨b1,b2,b3,b4⟩:=ih _ _ _ _ rfl hb (by omega)
    obtain ⟨d1,d2,d3,d4⟩:=ih (.chainL (l++[b.1])) _ _ _ (by cases l<;>rfl) h b2
    simp only [PeOk,Md.wt,ws_app,ws,List.length_append,List.length_cons,List.length_nil] at b3 d3 ⊢
    exact ⟨by omega,d2,by omega,fun h=>by cases h⟩
   ·injection h with h;subst h
    have:=oneOr_w 4 hne
    simp only [PeOk,Md.wt]
    exact ⟨t1,by omega,by omega,fun h=>by cases h⟩
  | ahead =>
   simp only [pe] at h
   obtain ⟨t,ht,h⟩:=z0S h
   obtain ⟨t1,t2,_,_⟩:=z2U ht hp
   split at h
   ·rename_i e
    have:=z2Q e
    simp only [List.length_cons,List.length_nil] at this
    obtain ⟨b,hb,h⟩:=z0S h
    obtain ⟨b1,b2,b3,b4⟩:=ih _ _ _ _ rfl hb (by omega)
    injection h with h;subst h
    simp only [PeOk,Md.wt,nd,Ex.w,ws,List.length_nil] at b3 ⊢
    exact ⟨by omega,b2,by omega,fun _=>by omega⟩
   ·split at h
    ·rename_i e
     have:=z2Q e
     simp only [List.length_cons,List.length_nil] at this
     obtain ⟨b,hb,h⟩:=z0S h
     obtain ⟨b1,b2,b3,b4⟩:=ih _ _ _ _ rfl hb (by omega)
     injection h with h;subst h
     simp only [PeOk,Md.wt,nd,Ex.w,ws,List.length_nil] at b3 ⊢
     exact ⟨by omega,b2,by omega,fun _=>by omega⟩
    ·obtain ⟨b,hb,h⟩:=z0S h
     obtain ⟨b1,b2,b3,b4⟩:=ih _ _ _ _ rfl hb (by omega)
     have b4:=b4 rfl
     obtain ⟨d1,d2,d3,d4⟩:=ih (.postL b.1) _ _ _ rfl h b2
     simp only [PeOk,Md.wt] at b3 d3 ⊢
     exact ⟨by omega,d2,by omega,fun _=>by omega⟩
  | postL a =>
   simp only [pe] at h
   obtain ⟨t,ht,h⟩:=z0S h
   obtain ⟨t1,t2,_,_⟩:=z2U ht hp
   have go:∀ op:Int,1≤t.1.length→pe n (.postL (nd op [a])) s (t.2+1)=.ok x→PeOk (.postL a) s p x:=by
    intro op h1 h
    obtain ⟨d1,d2,d3,d4⟩:=ih (.postL (nd op [a])) _ _ _ rfl h (by omega)
    simp only [PeOk,Md.wt,nd,Ex.w,ws,List.length_nil] at d3 ⊢
    exact ⟨by omega,d2,by omega,fun h=>by cases h⟩
   split at h
   ·rename_i e;exact go 8 (by rw [z2Q e];simp) h
   ·split at h
    ·rename_i e;exact go 9 (by rw [z2Q e];simp) h
    ·split at h
     ·rename_i e;exact go 10 (by rw [z2Q e];simp) h
     ·injection h with h;subst h
      simp only [PeOk,Md.wt]
      exact ⟨t1,by omega,by omega,fun h=>by cases h⟩
  | atom =>
   simp only [pe] at h
   obtain ⟨t,ht,h⟩:=z0S h
   obtain ⟨t1,t2,_,_⟩:=z2U ht hp
   split at h
   ·cases h
   rename_i hb
   have hl:=tok_pos (t:=t.1) (by simpa using hb)
   simp only [PeOk,Md.wt]
   split at h
   ·injection h with h;subst h
    simp only [lf,Ex.w,ws,List.length_nil]
    exact ⟨by omega,by omega,by omega,fun _=>by omega⟩
   split at h
   ·rename_i e
    have:=z2Q e
    simp only [List.length_cons,List.length_nil] at this
    injection h with h;subst h
    simp only [lf,Ex.w,ws,List.length_nil]
    exact ⟨by omega,by omega,by omega,fun _=>by omega⟩
   split at h
   ·injection h with h;subst h
    simp only [lf,Ex.w,ws,List.length_nil]
    exact ⟨by omega,by omega,by omega,fun _=>by omega⟩
   split at h
   ·obtain ⟨b,hb,h⟩:=z0S h
    obtain ⟨b1,b2,b3,b4⟩:=ih _ _ _ _ rfl hb (by omega)
    obtain ⟨y,hy,h⟩:=z0S h
    obtain ⟨y1,y2,y3⟩:=z3G hy b2
    split at h
    ·injection h with h;subst h
     simp only [PeOk,Md.wt] at b3
     simp only [PeOk,Md.wt]
     exact ⟨by omega,by omega,by omega,fun _=>by omega⟩
    ·cases h
   split at h
   ·injection h with h;subst h
    simp only [Ex.w,ws,List.length_drop]
    exact ⟨by omega,by omega,by omega,fun _=>by omega⟩
   split at h
   ·injection h with h;subst h
    simp only [Ex.w,ws,List.length_drop,List.length_take]
    exact ⟨by omega,by omega,by omega,fun _=>by omega⟩
   ·injection h with h;subst h
    simp only [Ex.w,ws]
    exact ⟨by omega,by omega,by omega,fun _=>by omega⟩
theorem z1L {α β:Type} {x:PR α} {f:α→PR β} (h:x≠.oof) (hf:∀ a,x=.ok a→f a≠.oof):x.bind f≠.oof:=by
 cases x with
 | oof=>exact absurd rfl h
 | bad=>intro h;cases h
 | ok a=>exact hf a rfl
theorem tkn_no (s:Bt) (p:Nat):tkn s p≠.oof:=by
 unfold tkn;split<;>(intro h;cases h)
theorem tak_no (t s:Bt) (p:Nat):tak t s p≠.oof:=by
 unfold tak
 refine z1L (tkn_no _ _) fun a _=>?_
 split<;>(intro h;cases h)
def Md.rk:Md→Nat
 | .atom=>1
 | .ahead=>2
 | .chain=>3
 | .ignore=>5
 | .shuffle=>7
 | .and=>9
 | .or=>11
 | .but=>13
 | .only=>14
 | .left _ _ nx=>nx.rk+1
 | .all _ _ nx=>nx.rk+1
 | .leftL _ _ nx _=>nx.rk+1
 | .allL _ _ nx _=>nx.rk+1
 | .chainL _=>3
 | .postL _=>2
theorem pe_fuel:∀ (n:Nat) (md:Md) (s:Bt) (p:Nat),md.rk≤14→md.sgn=true→p≤s.length→15*(s.length-p)+md.rk≤n→pe n md s p≠.oof
 | 0,md,s,p,hr,_,hp,hn=>by cases md<;>simp [Md.rk] at hn
 | n+1,md,s,p,hr,hsg,hp,hn=>by
  have ih:=pe_fuel n
  have ok:=pe_ok n
  have okno:∀ {α:Type} (a:α),PR.ok a≠.oof:=fun a h=>by cases h
  have badno:∀ {α:Type},(PR.bad:PR α)≠.oof:=fun h=>by cases h
  cases md with
  | only =>
   simp only [Md.rk] at hn
   simp only [pe]
   refine z1L (ih .but s p (by decide) rfl hp (by simp only [Md.rk];omega)) fun a ha=>z1L (tak_no _ _ _) fun y hy=>?_
   obtain ⟨a1,a2,_,a4⟩:=ok _ _ _ _ rfl ha hp
   obtain ⟨y1,y2,y3⟩:=z3G hy a2
   have a4:=a4 rfl
   split
   ·refine z1L (tkn_no _ _) fun t ht=>?_
    obtain ⟨t1,t2,_,_⟩:=z2U ht y2
    refine z1L ?_ fun l hl=>z1L (tak_no _ _ _) fun z hz=>?_
    ·split
     ·exact okno _
     ·exact ih .but s _ (by decide) rfl (by omega) (by simp only [Md.rk];omega)
    ·have hl':t.2≤l.2∧l.2≤s.length:=by
      split at hl
      ·injection hl with hl;subst hl;exact ⟨Nat.le_refl _,by simp only;omega⟩
      ·obtain ⟨b1,b2,b3,b4⟩:=ok _ _ _ _ rfl hl (by omega)
       exact ⟨b1,b2⟩
     obtain ⟨z1,z2,z3⟩:=z3G hz hl'.2
     split
     ·refine z1L (tkn_no _ _) fun u hu=>?_
      obtain ⟨u1,u2,_,_⟩:=z2U hu z2
      refine z1L ?_ fun r hr=>okno _
      split
      ·exact okno _
      ·exact ih .but s _ (by decide) rfl (by omega) (by simp only [Md.rk];omega)
     ·exact badno
   ·exact okno _
  | but=>simp only [pe];exact ih _ s p (by decide) rfl hp (by simp only [Md.rk] at hn ⊢;omega)
  | or=>simp only [pe];exact ih _ s p (by decide) rfl hp (by simp only [Md.rk] at hn ⊢;omega)
  | and=>simp only [pe];exact ih _ s p (by decide) rfl hp (by simp only [Md.rk] at hn ⊢;omega)
  | shuffle=>simp only [pe];exact ih _ s p (by decide) rfl hp (by simp only [Md.rk] at hn ⊢;omega)
  | ignore=>simp only [pe];exact ih _ s p (by decide) rfl hp (by simp only [Md.rk] at hn ⊢;omega)
  | left op sg nx =>
   simp only [Md.rk] at hn hr
   simp only [Md.sgn,Bool.and_eq_true] at hsg
   simp only [pe]
   refine z1L (ih nx s p (by omega) hsg.1.2 hp (by omega)) fun a ha=>?_
   obtain ⟨a1,a2,_,a4⟩:=ok _ _ _ _ hsg.1.2 ha hp
   have a4:=a4 hsg.2
   exact ih _ s _ (by simp only [Md.rk];omega) (by simp only [Md.sgn,Bool.and_eq_true];exact hsg) a2 (by simp only [Md.rk];omega)
  | leftL op sg nx a =>
   have hsg':=hsg
   simp only [Md.rk] at hn hr
   simp only [Md.sgn,Bool.and_eq_true,beq_iff_eq] at hsg
   simp only [pe]
   refine z1L (tak_no _ _ _) fun y hy=>?_
   obtain ⟨y1,y2,y3⟩:=z3G hy hp
   split
   ·rename_i h1
    have y3:=y3 h1
    rw [hsg.1.1] at y3
    refine z1L (ih nx s _ (by omega) hsg.1.2 y2 (by omega)) fun b hb=>?_
    obtain ⟨b1,b2,_,_⟩:=ok _ _ _ _ hsg.1.2 hb y2
    exact ih _ s _ (by simp only [Md.rk];omega) hsg' b2 (by simp only [Md.rk];omega)
   ·exact okno _
  | all op sg nx =>
   simp only [Md.rk] at hn hr
   simp only [Md.sgn,Bool.and_eq_true] at hsg
   simp only [pe]
   refine z1L (ih nx s p (by omega) hsg.1.2 hp (by omega)) fun a ha=>?_
   obtain ⟨a1,a2,_,a4⟩:=ok _ _ _ _ hsg.1.2 ha hp
   have a4:=a4 hsg.2
   exact ih _ s _ (by simp only [Md.rk];omega) (by simp only [Md.sgn,Bool.and_eq_true];exact ⟨hsg,rfl⟩) a2 (by simp only [Md.rk];omega)
  | allL op sg nx l =>
   simp only [Md.rk] at hn hr
   simp only [Md.sgn,Bool.and_eq_true,beq_iff_eq] at hsg
   simp only [pe]
   refine z1L (tak_no _ _ _) fun y hy=>?_
   obtain ⟨y1,y2,y3⟩:=z3G hy hp
   split
   ·rename_i h1
    have y3:=y3 h1
    rw [hsg.1.1.1] at y3
    refine z1L (ih nx s _ (by omega) hsg.1.1.2 y2 (by omega)) fun b hb=>?_
    obtain ⟨b1,b2,_,_⟩:=ok _ _ _ _ hsg.1.1.2 hb y2
    exact ih _ s _ (by simp only [Md.rk];omega) (by
     simp only [Md.sgn,Bool.and_eq_true,beq_iff_eq]
     exact ⟨⟨⟨hsg.1.1.1,hsg.1.1.2⟩,hsg.1.2⟩,by cases l<;>rfl⟩) b2 (by simp only [Md.rk];omega)
   ·exact okno _
  | chain =>
   simp only [Md.rk] at hn
   simp only [pe]
   refine z1L (ih .ahead s p (by decide) rfl hp (by simp only [Md.rk];omega)) fun a ha=>?_
   obtain ⟨a1,a2,_,a4⟩:=ok _ _ _ _ rfl ha hp
   have a4:=a4 rfl
   exact ih _ s _ (by simp only [Md.rk];omega) rfl a2 (by simp only [Md.rk];omega)
  | chainL l =>
   simp only [Md.rk] at hn
   simp only [pe]
   refine z1L (tkn_no _ _) fun t ht=>?_
   obtain ⟨t1,t2,_,_⟩:=z2U ht hp
   split
   ·refine z1L (ih .ahead s _ (by decide) rfl (by omega) (by simp only [Md.rk];omega)) fun b hb=>?_
    obtain ⟨b1,b2,_,b4⟩:=ok _ _ _ _ rfl hb (by omega)
    have b4:=b4 rfl
    exact ih _ s _ (by simp only [Md.rk];omega) (by cases l<;>rfl) b2 (by simp only [Md.rk];omega)
   ·exact okno _
  | ahead =>
   simp only [Md.rk] at hn
   simp only [pe]
   refine z1L (tkn_no _ _) fun t ht=>?_
   obtain ⟨t1,t2,_,_⟩:=z2U ht hp
   split
   ·rename_i e
    have:=z2Q e
    simp only [List.length_cons,List.length_nil] at this
    exact z1L (ih .ahead s _ (by decide) rfl (by omega) (by simp only [Md.rk];omega)) fun _ _=>okno _
   ·split
    ·rename_i e
     have:=z2Q e
     simp only [List.length_cons,List.length_nil] at this
     exact z1L (ih .ahead s _ (by decide) rfl (by omega) (by simp only [Md.rk];omega)) fun _ _=>okno _
    ·refine z1L (ih .atom s _ (by decide) rfl (by omega) (by simp only [Md.rk];omega)) fun b hb=>?_
     obtain ⟨b1,b2,_,b4⟩:=ok _ _ _ _ rfl hb (by omega)
     have b4:=b4 rfl
     exact ih _ s _ (by simp only [Md.rk];omega) rfl b2 (by simp only [Md.rk];omega)
  | postL a =>
   simp only [Md.rk] at hn
   simp only [pe]
   refine z1L (tkn_no _ _) fun t ht=>?_
   obtain ⟨t1,t2,_,_⟩:=z2U ht hp
   have go:∀ op:Int,1≤t.1.length→pe n (.postL (nd op [a])) s (t.2+1)≠.oof:=fun op h1=>ih _ s _ (by simp only [Md.rk];omega) rfl (by omega) (by simp only [Md.rk];omega)
   split
   ·rename_i e;exact go 8 (by rw [z2Q e];simp)
   ·split
    ·rename_i e;exact go 9 (by rw [z2Q e];simp)
    ·split
     ·rename_i e;exact go 10 (by rw [z2Q e];simp)
     ·exact okno _
  | atom =>
   simp only [Md.rk] at hn
   simp only [pe]
   refine z1L (tkn_no _ _) fun t ht=>?_
   obtain ⟨t1,t2,_,_⟩:=z2U ht hp
   split
   ·exact badno
   rename_i hb
   have hl:=tok_pos (t:=t.1) (by simpa using hb)
   split;· exact okno _
   split;· exact okno _
   split;· exact okno _
   split
   ·refine z1L (ih .only s _ (by decide) rfl (by omega) (by simp only [Md.rk];omega)) fun b hb=>z1L (tak_no _ _ _) fun y hy=>?_
    split
    ·exact okno _
    ·exact badno
   split;· exact okno _
   split;· exact okno _
   exact okno _
set_option maxRecDepth 100000
set_option maxHeartbeats 8000000
section steps
variable {P:Program} {H G:Heap} {al:AL} {K:KL} {Qp:AL→AV→Heap→Prop} {os:List IOper} {d:Nat} {x y z:Arg}
theorem z1Q {zs:List AV} (h:VV P os ((d,.ptr H.length 0)::al) (H++[.cells zs]) K Qp):VV P (⟨some d,.i (.m (.alloc zs)),[],none,none⟩::os) al H K Qp:=by
 refine st_i ?_ h
 show some (AV.ptr H.length 0,put H H.length (.cells zs))=_
 unfold put;rw [if_neg (by omega)]
theorem st_loadA3 {id:Nat} {a b c:AV} (hx:evL al x=.ptr id 0) (hg:H[id]? =some (.cells [a,b,c])) (h:VV P os ((d,.agg [a,b,c])::al) H K Qp):VV P (⟨some d,.i (.m (.load (some 3))),[x],none,none⟩::os) al H K Qp :=
 z1T hx hg rfl h
theorem st_mkfB {g:Nat} {v:AV} (hx:evL al x=v) (h:VV P os ((d,.clo (.func g) [v] [])::al) H K Qp):VV P (⟨some d,.i (.d (.mkFunc (.func g) 1)),[x],none,none⟩::os) al H K Qp :=
 z2Z (v:=.clo (.func g) [v] []) (by simp only [evsL,hx,dsem];rfl) h
end steps
theorem z0E {g n:Prop} (k:n) (h:Hide n→g:=by (intro k);(repeat (first | ((with_reducible apply z3A);focus (first | exact ev_c | (apply ev_t;(repeat (first | exact z0L | (apply z0J;focus exact rfl) | exact z0K))))) | ((with_reducible apply st_nil);exact rfl) | ((with_reducible apply st_iface);exact rfl) | ((with_reducible apply st_slFrom);exact rfl;exact rfl;(focus omega)) | ((with_reducible apply z4Y);exact rfl;exact rfl;(focus omega)) | ((with_reducible apply z1Q)) | ((with_reducible apply st_loadA3);exact rfl;(focus assumption)) | ((with_reducible apply st_mkfB);exact rfl) | ((with_reducible apply z4Z);exact rfl;exact rfl;(focus ((try simp only [List.length_append,List.length_cons,List.length_nil]);omega))) | ((with_reducible apply z3R);(focus (first | exact ev_c | (apply ev_t;(repeat (first | exact z0L | (apply z0J;focus exact rfl) | exact z0K)))));(focus assumption);exact rfl;(focus assumption)) | ((with_reducible apply z3Q);(focus (first | exact ev_c | (apply ev_t;(repeat (first | exact z0L | (apply z0J;focus exact rfl) | exact z0K)))));(focus assumption);exact rfl;(focus assumption)) | ((with_reducible apply z2L);exact rfl;exact rfl) | ((with_reducible apply z2M);exact rfl) | ((with_reducible apply z4P);exact rfl;exact rfl) | ((with_reducible apply z4W);exact rfl;exact rfl) | ((with_reducible apply z3C);exact rfl;exact rfl) | ((with_reducible apply z2B);exact rfl;exact rfl) | ((with_reducible apply z4T);exact rfl;exact rfl) | ((with_reducible apply z4Q);exact rfl;exact rfl) | ((with_reducible apply z4U);exact rfl;exact rfl) | ((with_reducible apply z4M);exact rfl;exact rfl) | ((with_reducible apply z4V);exact rfl;exact rfl) | ((with_reducible apply z4L);exact rfl;exact rfl) | ((with_reducible apply z4N);exact rfl;exact rfl) | ((with_reducible apply z4S);exact rfl;exact rfl) | ((with_reducible apply z4K);exact rfl) | ((with_reducible apply z2P);exact rfl;exact rfl) | ((with_reducible apply z2X);exact rfl;exact rfl) | ((with_reducible apply z4B);(focus (first | exact ev_c | (apply ev_t;(repeat (first | exact z0L | (apply z0J;focus exact rfl) | exact z0K)))));(focus assumption)) | ((with_reducible apply z3Z);(focus (first | exact ev_c | (apply ev_t;(repeat (first | exact z0L | (apply z0J;focus exact rfl) | exact z0K)))));(focus assumption);exact rfl;(focus assumption)) | ((with_reducible apply z2N);exact rfl;exact rfl;(focus assumption)) | ((with_reducible apply z1J);exact rfl;exact rfl;exact rfl;exact rfl;exact rfl;(focus (first | exact rfl | exact z1C));exact rfl) | ((with_reducible apply z2K);exact rfl;exact rfl;exact rfl) | ((with_reducible apply z3B);exact rfl;(focus (first | assumption | exact z0H (by assumption)));exact rfl) | ((with_reducible apply z1Z);exact rfl;exact rfl) | ((with_reducible apply z1X);exact rfl;(focus (first | exact ev_c | (apply ev_t;(repeat (first | exact z0L | (apply z0J;focus exact rfl) | exact z0K)))));exact rfl;exact rfl;exact rfl;exact rfl) | ((with_reducible apply z2W);exact rfl;exact rfl;exact rfl) | ((with_reducible apply z1T);exact rfl;(focus (first | assumption | exact z0H (by assumption)));exact rfl) | ((with_reducible apply z4C);(focus (first | exact ev_c | (apply ev_t;(repeat (first | exact z0L | (apply z0J;focus exact rfl) | exact z0K)))));exact rfl;exact rfl;exact rfl) | ((with_reducible apply z1M);exact rfl) | ((with_reducible apply z2S);exact rfl) | ((with_reducible apply z2E);exact rfl;exact rfl;(focus (first | decide | omega))) | ((with_reducible apply z4R);exact rfl;(focus omega)) | ((with_reducible apply z3T);focus (repeat (first | exact kp_nil | ((with_reducible apply kp);focus (repeat (first | exact z0L | (apply z0J;focus exact rfl) | exact z0K)))))) | ((with_reducible apply vs_end);focus (repeat (first | exact kp_nil | ((with_reducible apply kp);focus (repeat (first | exact z0L | (apply z0J;focus exact rfl) | exact z0K)))))) | ((with_reducible apply vs_q);exact rfl;exact rfl) | ((with_reducible apply vs_b);exact rfl;exact rfl;(focus exact Nat.le_refl _)) | ((with_reducible apply z5L)) | (with_reducible apply z5K) | ((with_reducible apply z4E);(focus (first | exact rfl | exact congrArg AV.bool (by assumption)));(focus (first | exact ev_c | (apply ev_t;(repeat (first | exact z0L | (apply z0J;focus exact rfl) | exact z0K)))))) | ((with_reducible apply z4F);(focus (first | exact rfl | exact congrArg AV.bool (by assumption)));(focus (first | exact ev_c | (apply ev_t;(repeat (first | exact z0L | (apply z0J;focus exact rfl) | exact z0K)))))) | ((with_reducible apply st_yes);(focus (first | exact rfl | exact congrArg AV.bool (by assumption)))) | ((with_reducible apply st_noT);(focus (first | exact rfl | exact congrArg AV.bool (by assumption)))) | ((with_reducible apply st_noF);(focus (first | exact rfl | exact congrArg AV.bool (by assumption)))) | ((with_reducible apply st_no');exact rfl) | with_reducible refine z2V ?_ | with_reducible refine z1N ?_ | with_reducible refine nx_n ?_ | with_reducible refine z3V ?_ | with_reducible refine z4J ?_ | with_reducible refine iw_ret ?_ | with_reducible refine z5N ?_ | with_reducible refine nx_x ?_ | with_reducible refine nx_r ?_ | with_reducible refine bk_n ?_ | with_reducible refine bk_r ?_ | with_reducible refine bk_x ?_ | with_reducible refine bk_y rfl ?_ | ((with_reducible apply z5Q);(focus (first | exact rfl | exact congrArg AV.bool (by assumption)))) | ((with_reducible apply iw_no);(focus (first | exact rfl | exact congrArg AV.bool (by assumption)))) | refine z2V ?_ | refine iw_drawq rfl rfl ?_ | with_reducible refine iw_drawS ?_));(exact k.h)):g:=h ⟨k⟩
abbrev flatE (l:List Ex):List AV:=flat (l.map enc)
theorem z2Y (l:List Ex):(flatE l).length=l.length*3:=by
 have:=flat_len (xs:=l.map enc) (sz:=3) (fun x hx=>by
  obtain ⟨e,_,rfl⟩:=List.mem_map.1 hx
  obtain ⟨a,b,c,d⟩:=e;rw [z0U];rfl)
 rw [this,List.length_map]
theorem z2R (l m:List Ex):flatE (l++m)=flatE l++flatE m:=by simp [flat]
theorem z0Y (op:Int) (s:Bt) (nl:Bool) (l:List Ex):flatE [.mk op s nl l]=[.int .i64 op,.str s,lst nl l]:=by
 show (enc _).cells++[]=_
 rw [z0U];rfl
theorem z5R (l:List Ex):(flatE l).all AV.scalar=true:=by
 induction l with
 | nil=>rfl
 | cons e l ih =>
  obtain ⟨a,b,c,d⟩:=e
  have:flatE (.mk a b c d::l)=[.int .i64 a,.str b,lst c d]++flatE l:=by
   rw [←z0Y,←z2R];rfl
  rw [this,List.all_append,ih]
  simp only [List.all_cons,scalar_lst,List.all_nil];rfl
def PePost (H:Heap) (rid:Nat) (s:Bt) (x:PR (Ex × Nat)):CPost :=
 Ends (fun v H'=>∃ e q,x=.ok (e,q)∧v=enc e∧Mod H rid (RB s q) H') (fun v H'=>x=.bad∧∃ q,v=wrongA q∧Mod H rid (RB s q) H')
abbrev PePostX (H:Heap) (rid:Nat) (s:Bt) (x:PR (Ex × Nat)):CPost :=
 EndsX H.length (fun v H'=>∃ e q,x=.ok (e,q)∧v=enc e∧Mod H rid (RB s q) H') (fun v H'=>x=.bad∧∃ q,v=wrongA q∧Mod H rid (RB s q) H')
def WOk (n:Nat) (f:FuncId) (md:Md):Prop:=∀ {rid:Nat} {s:Bt} {p:Nat} {H:Heap},H[rid]? =some (RB s p)→p≤s.length→s.length≤6000→pe n md s p≠.oof→ACall PP f [.ptr rid 0] H (PePost H rid s (pe n md s p))
theorem fin_node {H H':Heap} {rid id q:Nat} {op:Int} {s:Bt} {l:List Ex} {x:PR (Ex × Nat)} (hx:x=.ok (nd op l,q)) (hg:H'[id]? =some (.cells (flatE l))) (hid:H.length≤id) (hm:Mod H rid (RB s q) H') (hr:rid<H.length) :
  PePostX H rid s x (.ret (.agg [.int .i64 op,.str [],.sl id 0 l.length 3])) H':=by
 have hs:SealsX H.length (.agg [.int .i64 op,.str [],.sl id 0 l.length 3]) H' (enc (nd op l)) (H'.set id .dead):=by
  refine .step id _ hid hg (.base _ _ ?_) (.done _ _)
  unfold nd
  rw [z0U]
  refine .agg _ _ rfl fun i=>?_
  match i with
  | 0=>exact .refl _
  | 1=>exact .refl _
  | 2 =>
   show SealR id _ (.sl id 0 l.length 3) (lst false l)
   have e:lst false l=.list 3 (l.map enc):=by simp [lst]
   rw [e]
   refine .sl 0 _ 3 (l.map enc) (by simp) (fun x hx=>?_) ?_ ?_
   ·obtain ⟨e,_,rfl⟩:=List.mem_map.1 hx
    obtain ⟨a,b,c,d⟩:=e;rw [z0U];rfl
   ·rw [List.drop_zero,←z2Y,List.take_length]
   ·rw [z2Y];omega
  | i+3=>exact .refl _
 exact .inl ⟨_,_,_,rfl,hs,_,q,hx,rfl,hm.seals hr (Nat.le_refl _) hs⟩
theorem z4X {H H':Heap} {rid q:Nat} {s:Bt} {e:Ex} {x:PR (Ex × Nat)} {v:AV} (hv:v=enc e) (hx:x=.ok (e,q)) (hm:Mod H rid (RB s q) H'):PePostX H rid s x (.ret v) H':=by
 subst hv
 exact .inl ⟨_,_,_,rfl,.done _ _,_,q,hx,rfl,hm⟩
theorem z1F {H H':Heap} {rid q:Nat} {s:Bt} {x:PR (Ex × Nat)} (hx:x=.bad) (hm:Mod H rid (RB s q) H'):PePostX H rid s x (.panic (wrongA q)) H':=.inr ⟨_,rfl,hx,q,rfl,hm⟩
section steps
variable {H:Heap} {al:AL} {K:KL} {Qp:AL→AV→Heap→Prop} {os:List IOper} {d:Nat} {x y z:Arg}
theorem z5D {f:FuncId} {as_:List Arg} {args:List AV} {rid:Nat} {s:Bt} {r:PR (Ex × Nat)} (ha:evsL al as_=args) (hc:ACall PP f args H (PePost H rid s r))
  (h:∀ op t nl l q H',r=.ok (.mk op t nl l,q)→Mod H rid (RB s q) H'→VV PP os ((d,.agg [.int .i64 op,.str t,lst nl l])::al) H' K Qp) (hp:∀ q H',r=.bad→Mod H rid (RB s q) H'→Qp al (wrongA q) H') :
  VV PP (⟨some d,.callF f,as_,none,none⟩::os) al H K Qp:=by
 refine z1W ha hc ?_ ?_
 ·rintro v H' (⟨v',hv,e,q,he,rfl,hm⟩ | ⟨v',hv,_⟩)
  ·cases hv
   obtain ⟨op,t,nl,l⟩:=e
   rw [z0U]
   exact h _ _ _ _ _ _ he hm
  ·cases hv
 ·rintro v H' (⟨v',hv,_⟩ | ⟨v',hv,he,q,rfl,hm⟩)
  ·cases hv
  ·cases hv
   exact hp _ _ he hm
theorem st_pev {f:FuncId} {as_:List Arg} {a:AV} {rid:Nat} {s:Bt} {r:PR (Ex × Nat)} (ha:evsL al as_=[.clo (.func f) [a] []]) (hb:hasBody PP f=true) (hc:ACall PP f [a] H (PePost H rid s r))
  (h:∀ op t nl l q H',r=.ok (.mk op t nl l,q)→Mod H rid (RB s q) H'→VV PP os ((d,.agg [.int .i64 op,.str t,lst nl l])::al) H' K Qp) (hp:∀ q H',r=.bad→Mod H rid (RB s q) H'→Qp al (wrongA q) H') :
  VV PP (⟨some d,.callV,as_,none,none⟩::os) al H K Qp:=by
 refine st_callvq (R:=PePost H rid s r) ha hb hc ?_ ?_
 ·rintro v H' (⟨v',hv,e,q,he,rfl,hm⟩ | ⟨v',hv,_⟩)
  ·cases hv
   obtain ⟨op,t,nl,l⟩:=e
   rw [z0U]
   exact h _ _ _ _ _ _ he hm
  ·cases hv
 ·rintro v H' (⟨v',hv,_⟩ | ⟨v',hv,he,q,rfl,hm⟩)
  ·cases hv
  ·cases hv
   exact hp _ _ he hm
theorem st_tk {x:Arg} {rid p:Nat} {s:Bt} (hx:evL al x=.ptr rid 0) (hg:H[rid]? =some (RB s p)) (hp:p≤s.length) (hs:s.length≤6000)
  (h:∀ t H',tkn s p=.ok (t,skp s p)→skp s p+t.length≤s.length→H'[rid]? =some (RB s (skp s p))→Mod H rid (RB s (skp s p)) H'→VV PP os ((d,.str t)::al) H' K Qp)
  (hq:∀ H',tkn s p=.bad→Mod H rid (RB s (skp s p)) H'→Qp al (wrongA (skp s p)) H'):VV PP (⟨some d,.callF 175,[x],none,none⟩::os) al H K Qp:=by
 have hm:Mod H rid (RB s (skp s p)) (H.set rid (RB s (skp s p))):=(Mod.refl hg).put
 refine z1W (args:=[.ptr rid 0]) (by rw [←hx];rfl) (c239 hg hp (by omega)) ?_ ?_
 ·rintro v H' ⟨rfl,h2⟩
  cases ht:tok (s.drop (skp s p)) with
  | none=>rw [ht] at h2;cases h2
  | some t =>
   rw [ht] at h2
   injection h2 with h2
   subst h2
   have h3:=tok_len ht
   have h4:=skp_le hp
   rw [List.length_drop] at h3
   exact h t _ (by unfold tkn;rw [ht]) (by omega) hm.get hm
 ·rintro v H' ⟨rfl,h2⟩
  cases ht:tok (s.drop (skp s p)) with
  | some t=>rw [ht] at h2;cases h2
  | none =>
   rw [ht] at h2
   injection h2 with h2
   subst h2
   exact hq _ (by unfold tkn;rw [ht]) hm
theorem st_tak {x:Arg} {rid p:Nat} {s t:Bt} (ha:evsL al [x,y]=[.ptr rid 0,.str t]) (hg:H[rid]? =some (RB s p)) (hp:p≤s.length) (hs:s.length≤6000)
  (h:∀ b q H',tak t s p=.ok (b,q)→q≤s.length→H'[rid]? =some (RB s q)→Mod H rid (RB s q) H'→VV PP os ((d,.bool b)::al) H' K Qp)
  (hq:∀ q H',tak t s p=.bad→Mod H rid (RB s q) H'→Qp al (wrongA q) H'):VV PP (⟨some d,.callF 191,[x,y],none,none⟩::os) al H K Qp:=by
 refine z1W ha (c258 hg hp (by omega)) ?_ ?_
 ·rintro v H' hv
  unfold TakP at hv
  cases ht:tak t s p with
  | oof=>exact absurd ht (tak_no _ _ _)
  | bad=>rw [ht] at hv;obtain ⟨q,hv,_⟩:=hv;cases hv
  | ok w =>
   obtain ⟨b,q⟩:=w
   rw [ht] at hv
   obtain ⟨hv,rfl⟩:=hv
   injection hv with hv
   subst hv
   have hm:Mod H rid (RB s q) (H.set rid (RB s q)):=(Mod.refl hg).put
   exact h b q _ ht (z3G ht hp).2.1 hm.get hm
 ·rintro v H' hv
  unfold TakP at hv
  cases ht:tak t s p with
  | oof=>exact absurd ht (tak_no _ _ _)
  | ok w=>rw [ht] at hv;obtain ⟨hv,_⟩:=hv;cases hv
  | bad =>
   rw [ht] at hv
   obtain ⟨q,hv,rfl⟩:=hv
   injection hv with hv
   subst hv
   exact hq q _ ht (Mod.refl hg).put
theorem z1H {c:Blk} {k:Nat} {zs ws:List AV} (hc:c=.cells zs) (hx:evL al x=.ptr H.length 0) (hy:evL al y=.agg ws) (hw:ws.length=k) (hl:zs.length=k) (hs:ws.all AV.scalar=true)
  (h:VV PP os al (H++[.cells ws]) K Qp):VV PP (⟨none,.i (.m (.store k)),[x,y],none,none⟩::os) al (H++[c]) K Qp:=by
 subst hc
 refine z0X (.agg ws) hx hy (cs:=zs) (cs':=ws) (by rw [List.getElem?_append_right (Nat.le_refl _),Nat.sub_self];rfl) (by simp [AV.shaped,AV.cells,hw,hl];simpa using hs) (setAt_all (by simp [AV.cells,hw,hl])) (by simp) h
theorem z0P {id:Nat} {a b c a' b' c':AV} (hx:evL al x=.ptr id 0) (hy:evL al y=.agg [a',b',c']) (hg:H[id]? =some (.cells [a,b,c])) (hs:([a',b',c']:List AV).all AV.scalar=true)
  (h:VV PP os al (H.set id (.cells [a',b',c'])) K Qp):VV PP (⟨none,.i (.m (.store 3)),[x,y],none,none⟩::os) al H K Qp :=
 z0X (.agg [a',b',c']) hx hy hg (by simp only [AV.shaped,AV.cells,hs];rfl) rfl rfl h
theorem z0Q {c:Blk}:(H++[c])[H.length]? =some c:=by rw [List.getElem?_append_right (Nat.le_refl _),Nat.sub_self];rfl
theorem z1K {t id:Nat} {a b c:AV} (ht:look al t=.ptr id 0) (hg:H[id]? =some (.cells [a,b,c])):resultL [.cell t (some 3)] al H=some (.agg [a,b,c]):=by
 simp only [resultL,resVL,rload,ht,hg];rfl
theorem st_appE {id:Nat} {L:List Ex} {op:Int} {t:Bt} {nl:Bool} {l:List Ex} {X:Heap} (hx:evL al x=.sl id 0 L.length 3) (hy:evL al y=.sl X.length 0 1 3) (hg:X[id]? =some (.cells (flatE L))) (hn:L.length≤1000000)
  (h:∀ H',H'[X.length+1]? =some (.cells (flatE (L++[.mk op t nl l])))→(∀ j b,j≠id→X[j]? =some b→H'[j]? =some b)→X.length+1<H'.length→VV PP os ((d,.sl (X.length+1) 0 (L++[Ex.mk op t nl l]).length 3)::al) H' K Qp) :
  VV PP (⟨some d,.i (.m (.append 3 48)),[x,y],none,none⟩::os) al (X++[.cells (flatE [.mk op t nl l])]) K Qp:=by
 have hlt:=(List.getElem?_eq_some_iff.1 hg).1
 refine st_appG (m:=1) (ys:=flatE [.mk op t nl l]) hx (z0H hg) (by rw [z2Y];omega) (by rw [hy];exact srcOf_last (by rw [z2Y];rfl)) (z5R _) (by omega) ?_
 have e1:((flatE L).drop 0).take (L.length*3)=flatE L:=by rw [List.drop_zero,←z2Y,List.take_length]
 rw [e1,←z2R]
 have e2:(X++[Blk.cells (flatE [.mk op t nl l])]:Heap).length=X.length+1:=by simp
 have e3:L.length+1=(L++[Ex.mk op t nl l]).length:=by simp
 rw [e2,e3]
 refine h _ ?_ ?_ (by simp)
 ·rw [List.getElem?_append_right (by simp)];simp
 ·intro j b hj hb
  have:=(List.getElem?_eq_some_iff.1 hb).1
  rw [List.getElem?_append_left (by simp;omega),List.getElem?_set,if_neg (fun e=>hj e.symm)]
  exact z0H hb
end steps
abbrev B0:Blk:=.cells [.int .i64 0,.str [],.nilslice]
theorem z0N {α β:Type} {a:α} {f:α→PR β}:(PR.ok a).bind f=f a:=rfl
theorem c294 (n:Nat) (hk:∀ m,m≤n→WOk m 226 .ahead):WOk (n+1) 225 .chain:=by
 intro rid s p H hg hp hs hne
 have hrl:=(List.getElem?_eq_some_iff.1 hg).1
 simp only [pe] at hne ⊢
 refine ACall.sealed (n:=H.length) ?_
 refine is225.c1 z0W mixed rfl ?_
 rw [List.append_nil]
 have m0:Mod H rid (RB s p) (H++[B0]):=(Mod.refl hg).app _
 refine z0E ?_
 have hne1:pe n .ahead s p≠.oof:=fun e=>hne (by rw [e];rfl)
 refine z5D (args:=[.ptr rid 0]) (by rfl) (hk n (Nat.le_refl _) m0.get hp hs hne1) ?_ ?_
 rotate_left
 ·intro q H' he hm
  exact z1F (by rw [he];rfl) (m0.trans hm)
 intro op t nl l q H1 he hm
 have hb0:H1[H.length]? =some B0:=hm.old _ _ (by omega) (by rw [List.getElem?_append_right (Nat.le_refl _),Nat.sub_self];rfl)
 obtain ⟨a1,a2,a3,a4⟩:=pe_ok _ _ _ _ _ rfl he hp
 have a4:=a4 rfl
 simp only at a1 a2 a4
 rw [he,z0N] at hne ⊢
 refine z0V (out:=flatE [.mk op t nl l]) (by rw [z0Y];rfl) ?_
 have m1:=(m0.trans hm).app [.cells (flatE [.mk op t nl l])]
 have hb1:=z0H (G:=[.cells (flatE [.mk op t nl l])]) hb0
 have hli:(H1++[.cells (flatE [.mk op t nl l])])[H1.length]? =some (.cells (flatE [.mk op t nl l])):=by rw [List.getElem?_append_right (Nat.le_refl _),Nat.sub_self];rfl
 have hl1:=(m0.trans hm).len
 have hl2:=(List.getElem?_eq_some_iff.1 hb0).1
 generalize (H1++[.cells (flatE [.mk op t nl l])]:Heap)=H2 at *
 generalize H1.length=id1 at *
 generalize hx:pe n (.chainL [.mk op t nl l]) s q=xx at *
 refine z0E ?_
 refine z2G (fun m al H'=>∃ id L q,al=[(0,.ptr rid 0),(2,.ptr H.length 0),(3,.sl id 0 L.length 3)]∧H'[id]? =some (.cells (flatE L))∧H.length<id∧H'[H.length]? =some B0∧Mod H rid (RB s q) H'∧q≤s.length ∧
  m≤n∧pe m (.chainL L) s q=xx∧L≠[]∧L.length≤q) n ⟨id1,[.mk op t nl l],q,rfl,hli,by omega,hb1,m1,a2,Nat.le_refl _,hx,by simp,by simp;omega⟩ ?_
 clear hli hb1 m1 a1 a2 a3 a4 hb0 hm he hl1 hl2 hx m0 hne1
 rintro m _ H1 ⟨id,L,q,rfl,hli,hid,hb0,hm,hq,hmn,hx,hL,hLq⟩
 cases m with
 | zero=>exact absurd hx.symm hne
 | succ m =>
 simp only [pe] at hx
 refine z0E ?_
 refine st_tk (by rfl) hm.get hq hs ?_ ?_
 rotate_left
 ·intro H' ht hm2
  exact z1F (by rw [←hx,ht];rfl) (hm.trans hm2)
 intro t H2 ht htl hg2 hm2
 rw [ht,z0N] at hx
 simp only at hx
 have hsk:=skp_ge s q
 have hli2:=hm2.old _ _ (by omega) hli
 have hb2:=hm2.old _ _ (by omega) hb0
 have m2:=hm.trans hm2
 refine z0F rfl (c296 (by omega) _) ?_
 refine z0E ?_
 cases hbg:bgn t
 ·
  rw [hbg] at hx
  simp only [Bool.false_eq_true,if_false] at hx
  refine z0E ?_
  have hne2:id≠H.length:=by omega
  cases h1:((L.length:Int)==1)
  ·have e1:oneOr 4 L=nd 4 L:=by
    match L,hL,h1 with
    | [_],_,h1=>simp at h1
    | _::_::_,_,_=>rfl
   rw [e1] at hx
   refine z0E ?_
   refine z0R rfl rfl ?_
   refine z0P rfl rfl hb2 rfl ?_
   refine z0E ?_
   exact z1G (z1K rfl (z0C hb2)) (fin_node hx.symm (z0A hli2 hne2) (by omega) (m2.own (Nat.le_refl _) (by omega)) hrl)
  ·match L,hL,h1,hli2 with
   | [.mk op t' nl l],_,_,hli2 =>
    rw [z0Y] at hli2
    refine z0E ?_
    refine z2E (i:=0) rfl rfl (by simp) ?_
    refine z0E ?_
    refine z0P rfl rfl hb2 z1C ?_
    refine z0E ?_
    exact z1G (z1K rfl (z0C hb2)) (z4X (z0U _ _ _ _).symm hx.symm (m2.own (Nat.le_refl _) (by omega)))
   | _::_::_,_,h1,_=>simp at h1;omega
 ·
  rw [hbg] at hx
  simp only [if_true] at hx
  have hne3:pe m .ahead s (skp s q)≠.oof:=fun e=>hne (by rw [←hx,e];rfl)
  refine z0E ?_
  refine z5D (args:=[.ptr rid 0]) (by rfl) (hk m (by omega) hg2 (by omega) hs hne3) ?_ ?_
  rotate_left
  ·intro q' H' he hm3
   exact z1F (by rw [←hx,he];rfl) (m2.trans hm3)
  intro op t' nl l q3 H3 he hm3
  rw [he,z0N] at hx
  obtain ⟨a1,a2,_,a4⟩:=pe_ok _ _ _ _ _ rfl he (by omega)
  have a4:=a4 rfl
  simp only at a1 a2 a4 hx
  have hli3:=hm3.old _ _ (by omega) hli2
  have hb3:=hm3.old _ _ (by omega) hb2
  have m3:=m2.trans hm3
  refine z1Q ?_
  refine z1H rfl rfl rfl rfl rfl z1C ?_
  have hla:(H3++[Blk.cells [.int .i64 op,.str t',lst nl l]])[H3.length]? =some (.cells [.int .i64 op,.str t',lst nl l]):=z0Q
  have m4:=m3.app [Blk.cells [.int .i64 op,.str t',lst nl l]]
  have hli4:=z0H (G:=[Blk.cells [.int .i64 op,.str t',lst nl l]]) hli3
  have hb4:=z0H (G:=[Blk.cells [.int .i64 op,.str t',lst nl l]]) hb3
  generalize hX:(H3++[Blk.cells [.int .i64 op,.str t',lst nl l]]:Heap)=X at *
  refine z0E ?_
  refine z0V (out:=flatE [.mk op t' nl l]) (by rw [z0Y];rfl) ?_
  refine st_appE (L:=L) (id:=id) (by rfl) (by rfl) hli4 (by omega) ?_
  intro H5 hl5 ho5 hlt5
  have hXl:=(List.getElem?_eq_some_iff.1 hb4).1
  refine z0E ?_
  exact ⟨m,by omega,_,L++[.mk op t' nl l],q3,rfl,hl5,by omega,ho5 _ _ (by omega) hb4,⟨ho5 _ _ (by omega) m4.get,fun j b hj hb=>ho5 _ _ (by have:=(List.getElem?_eq_some_iff.1 hb).1;omega) (m4.old j b hj hb),by have:=m4.len;omega⟩,a2,by omega,hx,by simp,by simp;omega⟩
end Go.Ab
