/- Part 34 of the proof. -/
import Derived.Test.YteaellpidegbiaaGreatDoorA33
set_option linter.unusedVariables false
set_option linter.unusedSimpArgs false
namespace Go.Ab
open Go
set_option maxRecDepth 100000
set_option maxHeartbeats 8000000
theorem skp_blank {s:Bt} {p:Nat} (h:s[p]? =some 32):skp s p=skp s (p+1):=by
 unfold skp
 have hp:=(List.getElem?_eq_some_iff.1 h).1
 have e:s.drop p=s[p]::s.drop (p+1):=List.drop_eq_getElem_cons hp
 have h2:s[p]=32:=by rw [List.getElem?_eq_getElem hp] at h;exact Option.some.inj h
 rw [e,h2,List.takeWhile_cons_of_pos (by simp)]
 simp;omega
theorem z4Z {s:Bt} {p:Nat} (h:s[p]?≠some 32):skp s p=p:=by
 unfold skp
 rcases Nat.lt_or_ge p s.length with hp | hp
 ·have e:s.drop p=s[p]::s.drop (p+1):=List.drop_eq_getElem_cons hp
  rw [e,List.takeWhile_cons_of_neg]
  ·simp
  ·rw [List.getElem?_eq_getElem hp] at h
   simpa using fun e=>h (congrArg some e)
 ·rw [List.drop_of_length_le hp];simp
theorem skp_ge (s:Bt) (p:Nat):p≤skp s p:=by unfold skp;omega
theorem z5A {s:Bt} {p:Nat} (h:p≤s.length):skp s p≤s.length:=by
 unfold skp
 have:((s.drop p).takeWhile (· == 32)).length≤(s.drop p).length:=(List.takeWhile_prefix _).length_le
 rw [List.length_drop] at this;omega
theorem skp_at {s:Bt} {p:Nat}:s[skp s p]?≠some 32:=by
 unfold skp
 intro h
 rw [←List.getElem?_drop] at h
 generalize s.drop p=l at h
 induction l with
 | nil=>simp at h
 | cons c l ih =>
  by_cases hc:(c==32)=true
  ·rw [List.takeWhile_cons_of_pos (p:=(· == 32)) hc] at h
   exact ih (by simpa using h)
  ·rw [List.takeWhile_cons_of_neg (p:=(· == 32)) hc] at h
   simp at h;subst h;simp at hc
theorem skp_skp (s:Bt) (p:Nat):skp s (skp s p)=skp s p:=z4Z skp_at
abbrev RB (s:Bt) (p:Nat):Blk:=.cells [.str s,.int .i64 p]
abbrev wrongA (p:Nat):AV:=.iface 292 (.agg [.int .i64 p])
def TokP (H:Heap) (rid:Nat) (s:Bt) (q:Nat):CPost:=fun r H'=>H'=H.set rid (RB s q)∧match tok (s.drop q) with
 | some t=>r=.ret (.str t)
 | none=>r=.panic (wrongA q)
theorem angN_at {c:UInt8} {t:Bt} (n:Nat) (hn:1≤n) (hp:∀ k,1≤k→k<n→∃ x,(c::t)[k]? =some x∧isSig x=true) (hs:∀ x,(c::t)[n]? =some x→isSig x=false) (hl:n≤(c::t).length):angN (c::t)=n:=by
 unfold angN
 have:∀ (t:Bt) (m:Nat),m≤t.length→(∀ k,k<m→∃ x,t[k]? =some x∧isSig x=true)→(∀ x,t[m]? =some x→isSig x=false)→(t.takeWhile isSig).length=m:=by
  intro t
  induction t with
  | nil=>intro m h _ _;simp at h;simp [h]
  | cons y t ih =>
   intro m h h1 h2
   cases m with
   | zero =>
    rw [List.takeWhile_cons_of_neg]
    ·rfl
    ·have:=h2 y rfl;simp [this]
   | succ m =>
    obtain ⟨x,hx,hx2⟩:=h1 0 (by omega)
    simp at hx;subst hx
    rw [List.takeWhile_cons_of_pos hx2,List.length_cons,ih m (by simpa using h) (fun k hk=>by simpa using h1 (k+1) (by omega)) (fun x hx=>h2 x (by simpa using hx))]
 have h:=this t (n-1) (by simp at hl;omega) (fun k hk=>by
  obtain ⟨x,h1,h2⟩:=hp (k+1) (by omega) (by omega)
  exact ⟨x,by simpa using h1,h2⟩) (fun x hx=>hs x (by rw [show n=n-1+1 by omega];simpa using hx))
 simp only [List.drop_succ_cons,List.drop_zero];omega
theorem wi_cutB {P:Program} {H:Heap} {al:AL} {Q:PL} {next:KL} {c:IC} {id:Nat} (R:AL→Heap→Prop) (h:WI P c (LX.inBlock id (LX.then R Q)) al H) (hR:∀ al' H',R al' H'→next al' H'):WI P c (LX.inBlock id (LX.then next Q)) al H :=
 h.mono fun x al' H' q=>by
  cases x with
  | normal=>exact hR _ _ q
  | exit i =>
   simp only [LX.inBlock] at q ⊢
   split
   ·rename_i e;rw [if_pos e] at q;exact hR _ _ q
   ·rename_i e;rw [if_neg e] at q;exact q
  | goto i=>exact q
  | ret=>exact q
  | panic v=>exact q
theorem z1T (c d:UInt8):((c.toNat:Int)==(d.toNat:Int))=(c==d):=by
 rw [Bool.eq_iff_iff,beq_iff_eq,beq_iff_eq,←UInt8.toNat_inj];omega
theorem c239 {s:Bt} {p rid:Nat} {H:Heap} (hg:H[rid]? =some (RB s p)) (hp:p≤s.length) (hs:s.length≤1000000):ACall PP 239 [.ptr rid 0] H (TokP H rid s (skp s p)):=by
 refine is239.c1 z0V mixed rfl ?_
 rw [List.append_nil]
 refine z0D ?_
 refine z1F (s.length-p) (fun i al H'=>al=[(0,.ptr rid 0),(2,.str [])]∧H'=H.set rid (RB s (p+i))∧p+i≤s.length∧skp s (p+i)=skp s p) ⟨rfl,by rw [Nat.add_zero,z4G hg],by omega,rfl⟩ ?_
 rintro i _ _ hi ⟨rfl,rfl,hle,hsk⟩
 have hq:=z0C (y:=RB s (p+i)) hg
 have hset:∀ x,(H.set rid (RB s (p+i))).set rid x=H.set rid x:=fun x=>by rw [List.set_set]
 rw [←hsk]
 obtain ⟨q,hqe⟩:∃ q,q=p+i:=⟨_,rfl⟩
 rw [←hqe] at hle hsk hq hset ⊢
 have hfin:∀ {r H'},TokP (H.set rid (RB s q)) rid s (skp s q) r H'→TokP H rid s (skp s q) r H':=fun h=>⟨by rw [h.1,hset],h.2⟩
 generalize hX:H.set rid (RB s q)=X at *
 refine z0D ?_
 cases hc:decide ((q:Int)<(s.length:Int))
 ·simp only [decide_eq_false_iff_not] at hc
  have he:q=s.length:=by omega
  have hst:skp s q=q:=z4Z (by rw [List.getElem?_eq_none (by omega)];simp)
  rw [hst]
  refine z0D ?_
  rw [show s.drop q=[] from List.drop_of_length_le (by omega)]
  refine z0D ?_
  exact z1G rfl ⟨hX.symm,by rw [List.drop_of_length_le (by omega)];rfl⟩
 simp only [decide_eq_true_eq] at hc
 obtain ⟨c,hcq⟩:=z1D (l:=s) (i:=q) (by omega)
 refine z0D ?_
 cases hb:((c.toNat:Int)==32)
 rotate_left
 ·have hc32:c=32:=by
   have:c.toNat=32:=by simp only [beq_iff_eq] at hb;omega
   exact UInt8.toNat_inj.1 this
  subst hc32
  refine z0D ?_
  refine z1J (.int .i64 (q+1:Nat)) rfl rfl hq rfl rfl rfl ?_
  refine z0D ?_
  have e:=skp_blank hcq
  refine ⟨by omega,rfl,?_,by omega,?_⟩
  ·rw [hset,show p+(i+1)=q+1 by omega];rfl
  ·rw [show p+(i+1)=q+1 by omega,←e,hsk]
 have hst:skp s q=q:=z4Z (by
  rw [hcq];intro e;injection e with e;subst e;simp at hb)
 rw [hst] at hfin ⊢
 refine z0D ?_
 have hdr:s.drop q=c::s.drop (q+1):=by rw [List.drop_eq_getElem_cons (by omega)];rw [List.getElem?_eq_getElem (by omega)] at hcq;injection hcq with hcq;rw [hcq]
 have hlr:(s.drop q).length≤1000000:=by rw [List.length_drop];omega
 have hfin:∀ {r H'},(H'=X∧match tok (s.drop q) with | some t=>r=.ret (.str t) | none=>r=.panic (wrongA q))→TokP H rid s q r H':=fun h=>⟨by rw [h.1];exact hX.symm,h.2⟩
 rw [hdr] at hfin hlr ⊢
 generalize s.drop (q+1)=t at *
 have h0:(c::t)[0]? =some c:=rfl
 refine z0D ?_
 have k1:∀ H,ACall PP 259 [.str (c::t),.str [61,62]] H (Just H (.bool ((c::t).take 2==[61,62]))):=fun H=>c259 hlr (by decide) H
 have k2:∀ H,ACall PP 259 [.str (c::t),.str [91,93]] H (Just H (.bool ((c::t).take 2==[91,93]))):=fun H=>c259 hlr (by decide) H
 have htk:tok (c::t)=if (c::t).take 2==[61,62]||(c::t).take 2==[91,93] then some ((c::t).take 2)
  else if isAl c||sg15.contains c then some [c]
  else if c==92&&(t != [])&&isSig (t.headD 0) && !isAl (t.headD 0) then some ((c::t).take 2)
  else if c==60&&angOk (c::t) then some ((c::t).take (angN (c::t)+1)) else none:=rfl
 have len2:∀ {u:Bt},u.length=2→((c::t).take 2==u)=true→2≤(c::t).length:=by
  intro u hu h
  rw [beq_iff_eq] at h
  have:=congrArg List.length h
  rw [List.length_take] at this;omega
 refine z0G rfl (k1 _) ?_
 refine z0D ?_
 cases b1:((c::t).take 2==[61,62])
 rotate_left
 ·have l2:=len2 rfl b1
  rw [b1] at htk
  simp only [Bool.true_or,if_true] at htk
  refine z0D ?_
  exact z1G rfl (hfin ⟨rfl,by rw [htk];exact rfl⟩)
 refine z0D ?_
 refine z0G rfl (k2 _) ?_
 refine z0D ?_
 cases b2:((c::t).take 2==[91,93])
 rotate_left
 ·have l2:=len2 rfl b2
  rw [b1,b2] at htk
  simp only [Bool.false_or,if_true] at htk
  refine z0D ?_
  exact z1G rfl (hfin ⟨rfl,by rw [htk];exact rfl⟩)
 rw [b1,b2] at htk
 simp only [Bool.false_or,Bool.false_eq_true,if_false] at htk
 have l1:1≤(c::t).length:=by simp
 have t1:(c::t).take 1=[c]:=rfl
 refine z0D ?_
 refine z0G rfl (c250 c _) ?_
 refine z0D ?_
 cases b3:isAl c
 rotate_left
 ·rw [b3] at htk
  simp only [Bool.true_or,if_true] at htk
  refine z0D ?_
  exact z1G rfl (hfin ⟨rfl,by rw [htk];exact rfl⟩)
 refine z0D ?_
 have e5:=index_has c sg15
 refine z0G rfl (c172 sg15 c _) ?_
 generalize Lib.indexByte sg15 c=ix at *
 refine z0D ?_
 rw [e5]
 rw [b3,Bool.false_or] at htk
 cases b4:sg15.contains c
 rotate_left
 ·rw [b4] at htk
  simp only [if_true] at htk
  refine z0D ?_
  exact z1G rfl (hfin ⟨rfl,by rw [htk];exact rfl⟩)
 rw [b4] at htk
 simp only [Bool.false_eq_true,if_false] at htk
 have e92:((c.toNat:Int)==92)=(c==92):=z1T c 92
 have e60:((c.toNat:Int)==60)=(c==60):=z1T c 60
 refine z0D ?_
 refine z1Y [(0,.ptr rid 0),(2,.str []),(3,.str (c::t)),(4,.int .u8 c.toNat),(67,.bool (c==92&&(t != [])&&isSig (t.headD 0) && !isAl (t.headD 0)))] X ?_ ?_
 ·rw [e92]
  cases b5:(c==92)
  ·refine z0D ?_
   exact z0S rfl rfl
  ·refine z0D ?_
   match t with
   | [] =>
    have e6:decide ((([c]:Bt).length:Int)>1)=false:=rfl
    rw [e6]
    refine z0D ?_
    exact z0S rfl rfl
   | d::t' =>
    have e6:decide (((c::d::t').length:Int)>1)=true:=by simp;omega
    have h1:(c::d::t')[1]? =some d:=rfl
    rw [e6]
    have e7:(true&&(d::t' != [])&&isSig ((d::t').headD 0) && !isAl ((d::t').headD 0))=(isSig d && !isAl d):=rfl
    rw [e7]
    refine z0D ?_
    refine z0G rfl (c260 d _) ?_
    refine z0D ?_
    cases b6:isSig d
    ·refine z0D ?_
     exact z0S rfl rfl
    ·refine z0D ?_
     refine z0G rfl (c250 d _) ?_
     refine z0D ?_
     exact z0S rfl rfl
 cases b7:(c==92&&(t != [])&&isSig (t.headD 0) && !isAl (t.headD 0))
 rotate_left
 ·rw [b7] at htk
  simp only [if_true] at htk
  have l2:2≤(c::t).length:=by
   cases t with
   | nil=>simp at b7
   | cons d t=>simp
  refine z0D ?_
  exact z1G rfl (hfin ⟨rfl,by rw [htk];exact rfl⟩)
 rw [b7] at htk
 simp only [Bool.false_eq_true,if_false] at htk
 have hpan:∀ {G:Heap},tok (c::t)=none→G=X→TokP H rid s q (.panic (wrongA q)) G:=fun h hG=>hfin ⟨hG,by rw [h]⟩
 refine z0D ?_
 rw [e60]
 cases b8:(c==60)
 ·rw [b8] at htk
  simp only [Bool.false_and,Bool.false_eq_true,if_false] at htk
  refine z0D ?_
  refine z0L rfl rfl ?_
  refine z0D ?_
  refine z4D rfl ?_
  exact hpan htk rfl
 rw [b8] at htk
 simp only [Bool.true_and] at htk
 refine z0D ?_
 refine wi_cutB (fun al' H'=>∃ tl,al'=(0,.ptr rid 0)::(2,.str [])::(3,.str (c::t))::(5,.int .i64 (angN (c::t)))::tl∧H'=X) ?_ ?_
 ·refine z1F (c::t).length (fun i al H'=>al=[(0,.ptr rid 0),(2,.str []),(3,.str (c::t)),(5,.int .i64 (1+i:Nat))]∧H'=X∧1+i≤(c::t).length ∧
   ∀ k,1≤k→k<1+i→∃ x,(c::t)[k]? =some x∧isSig x=true) ⟨rfl,rfl,by omega,fun k h1 h2=>by omega⟩ ?_
  rintro j _ _ hj ⟨rfl,rfl,hjl,hjs⟩
  obtain ⟨n,hne⟩:∃ n,n=1+j:=⟨_,rfl⟩
  rw [←hne] at hjl hjs ⊢
  have after:(∀ x,(c::t)[n]? =some x→isSig x=false)→angN (c::t)=n:=fun h=>angN_at n (by omega) hjs h hjl
  refine z0D ?_
  cases b9:decide ((n:Int)<((c::t).length:Int))
  ·simp only [decide_eq_false_iff_not] at b9
   rw [after fun x hx=>by rw [List.getElem?_eq_none (by omega)] at hx;cases hx]
   refine z0D ?_
   exact ⟨_,rfl,rfl⟩
  ·simp only [decide_eq_true_eq] at b9
   obtain ⟨x,hxn⟩:=z1D (l:=c::t) (i:=n) (by omega)
   refine z0D ?_
   refine z0G rfl (c260 x _) ?_
   refine z0D ?_
   cases b10:isSig x
   ·rw [after fun y hy=>by rw [hxn] at hy;injection hy with hy;subst hy;exact b10]
    refine z0D ?_
    exact ⟨_,rfl,rfl⟩
   ·refine z0D ?_
    refine ⟨by omega,?_,rfl,by omega,fun k h1 h2=>?_⟩
    ·rw [show 1+(j+1)=n+1 by omega];rfl
    ·by_cases hk:k=n
     ·subst hk;exact ⟨x,hxn,b10⟩
     ·exact hjs k h1 (by omega)
 rintro _ H2 ⟨tl,rfl,e⟩
 rw [e]
 clear e H2
 have hax:angOk (c::t)=(decide (3≤angN (c::t))&&decide (angN (c::t)≤17)&&decide (angN (c::t)<(c::t).length)&&((c::t).getD (angN (c::t)) 0==62)):=rfl
 rw [hax] at htk
 generalize angN (c::t)=n at *
 refine z0D ?_
 refine z1Y [(0,.ptr rid 0),(2,.str []),(3,.str (c::t)),(5,.int .i64 n),(120,.bool (decide (3≤n)&&decide (n≤17)&&decide (n<(c::t).length)&&((c::t).getD n 0==62)))] X ?_ ?_
 ·have d1:decide ((n:Int)≥3)=decide (3≤n):=by simp only [decide_eq_decide];omega
  have d2:decide ((n:Int)≤17)=decide (n≤17):=by simp only [decide_eq_decide];omega
  have d3:decide ((n:Int)<((c::t).length:Int))=decide (n<(c::t).length):=by simp only [decide_eq_decide];omega
  rw [d1]
  cases a1:decide (3≤n)
  ·refine z0D ?_
   exact z0S rfl rfl
  ·refine z0D ?_
   rw [d2]
   cases a2:decide (n≤17)
   ·refine z0D ?_
    exact z0S rfl rfl
   ·refine z0D ?_
    rw [d3]
    cases a3:decide (n<(c::t).length)
    ·refine z0D ?_
     exact z0S rfl rfl
    ·simp only [decide_eq_true_eq] at a3
     obtain ⟨x,hxn⟩:=z1D (l:=c::t) (i:=n) (by omega)
     have e62:((x.toNat:Int)==62)=(x==62):=z1T x 62
     have eg:(c::t).getD n 0=x:=by rw [List.getD_eq_getElem?_getD,hxn];rfl
     rw [eg,←e62]
     refine z0D ?_
     exact z0S rfl rfl
 cases b11:(decide (3≤n)&&decide (n≤17)&&decide (n<(c::t).length)&&((c::t).getD n 0==62))
 ·rw [b11] at htk
  simp only [Bool.false_eq_true,if_false] at htk
  refine z0D ?_
  refine z0L rfl rfl ?_
  refine z0D ?_
  refine z4D rfl ?_
  exact hpan htk rfl
 ·rw [b11] at htk
  simp only [if_true] at htk
  simp only [Bool.and_eq_true,decide_eq_true_eq] at b11
  obtain ⟨⟨⟨g1,g2⟩,g3⟩,g4⟩:=b11
  refine z0D ?_
  exact z1G rfl (hfin ⟨rfl,by rw [htk];exact rfl⟩)
def TakP (H:Heap) (rid:Nat) (s:Bt) (y:PR (Bool × Nat)):CPost:=fun r H'=>match y with
 | .ok (y,q)=>r=.ret (.bool y)∧H'=H.set rid (RB s q)
 | _=>∃ q,r=.panic (wrongA q)∧H'=H.set rid (RB s q)
theorem tok_len {r u:Bt} (h:tok r=some u):u.length≤r.length:=by
 unfold tok at h
 split at h
 ·injection h with h;subst h;simp
 ·rename_i c t
  split at h
  ·injection h with h;subst h;rw [List.length_take];omega
  ·split at h
   ·injection h with h;subst h;simp
   ·split at h
    ·injection h with h;subst h;rw [List.length_take];omega
    ·split at h
     ·injection h with h;subst h;rw [List.length_take];omega
     ·cases h
theorem c258 {s t:Bt} {p rid:Nat} {H:Heap} (hg:H[rid]? =some (RB s p)) (hp:p≤s.length) (hs:s.length≤1000000):ACall PP 258 [.ptr rid 0,.str t] H (TakP H rid s (tak t s p)):=by
 have k:=c239 hg hp hs
 have hle:=z5A hp
 have hq:=z0C (y:=RB s (skp s p)) hg
 have hset:∀ x,(H.set rid (RB s (skp s p))).set rid x=H.set rid x:=fun x=>by rw [List.set_set]
 unfold tak tkn
 generalize skp s p=q at *
 refine is258.c2 z0V mixed rfl ?_
 rw [List.append_nil]
 refine z0D ?_
 refine z1H rfl k ?_ ?_
 rotate_left
 ·rintro v H' ⟨rfl,h2⟩
  cases ht:tok (s.drop q) with
  | some u=>rw [ht] at h2;cases h2
  | none =>
   rw [ht] at h2
   injection h2 with h2
   subst h2
   exact ⟨q,rfl,rfl⟩
 rintro v H' ⟨rfl,h2⟩
 cases ht:tok (s.drop q) with
 | none=>rw [ht] at h2;cases h2
 | some u =>
  rw [ht] at h2
  injection h2 with h2
  subst h2
  have hul:=tok_len ht
  rw [List.length_drop] at hul
  simp only [PR.bind]
  generalize hX:H.set rid (RB s q)=X at *
  refine z0D ?_
  cases b:(u==t)
  ·refine z0D ?_
   exact z1G rfl ⟨rfl,hX.symm⟩
  ·have e:u=t:=by simpa using b
   subst e
   refine z0D ?_
   refine z4L (a:=q) (b:=u.length) rfl rfl (by omega) ?_
   refine z0D ?_
   refine z1J (.int .i64 (q+u.length:Nat)) rfl rfl hq rfl rfl rfl ?_
   refine z0D ?_
   exact z1G rfl ⟨rfl,hset _⟩
theorem z0Q {α β:Type} {x:PR α} {f:α→PR β} {b:β} (h:x.bind f=.ok b):∃ a,x=.ok a∧f a=.ok b:=by
 cases x with
 | oof=>cases h
 | bad=>cases h
 | ok a=>exact ⟨a,rfl,h⟩
theorem z2F {s:Bt} {p:Nat} {t:Bt × Nat} (h:tkn s p=.ok t) (hp:p≤s.length):p≤t.2∧t.2+t.1.length≤s.length∧t.2=skp s p∧tok (s.drop t.2)=some t.1:=by
 unfold tkn at h
 split at h
 ·cases h
 ·rename_i u hu
  injection h with h;subst h
  have h1:=tok_len hu
  rw [List.length_drop] at h1
  have h2:=skp_ge s p
  have h3:=z5A hp
  exact ⟨h2,by simp only;omega,rfl,hu⟩
theorem z2S {s t:Bt} {p:Nat} {y:Bool × Nat} (h:tak t s p=.ok y) (hp:p≤s.length):p≤y.2∧y.2≤s.length∧(y.1=true→p+t.length≤y.2):=by
 unfold tak at h
 obtain ⟨u,h1,h2⟩:=z0Q h
 obtain ⟨a,b,_,_⟩:=z2F h1 hp
 split at h2
 ·rename_i e
  have e:u.1=t:=by simpa using e
  injection h2 with h2;subst h2;subst e
  exact ⟨by simp only;omega,by simp only;omega,fun _=>by simp only;omega⟩
 ·injection h2 with h2;subst h2
  exact ⟨by simp only;omega,by simp only;omega,fun h=>by cases h⟩
def Md.fn:Md→Bool
 | .leftL .. | .allL .. | .chainL .. | .postL .. => false
 | _=>true
def Md.wt:Md→Nat
 | .leftL _ _ _ a=>a.w+1
 | .postL a=>a.w+1
 | .allL _ _ _ l=>ws l+l.length
 | .chainL l=>ws l+l.length
 | _=>0
def Md.sgn:Md→Bool
 | .left _ sg nx=>(sg.length==1)&&nx.sgn&&nx.fn
 | .all _ sg nx=>(sg.length==1)&&nx.sgn&&nx.fn
 | .leftL _ sg nx _=>(sg.length==1)&&nx.sgn&&nx.fn
 | .allL _ sg nx l=>(sg.length==1)&&nx.sgn&&nx.fn && !l.isEmpty
 | .chainL l=>!l.isEmpty
 | _=>true
theorem oneOr_w (op:Int) {l:List Ex} (h:l≠[]):(oneOr op l).w+1≤ws l+l.length:=by
 match l,h with
 | [x],_=>simp [oneOr,ws]
 | x::y::l,_=>simp [oneOr,nd,Ex.w];omega
theorem ws_app (a b:List Ex):ws (a++b)=ws a+ws b:=by
 induction a with
 | nil=>simp [ws]
 | cons x xs ih=>simp only [List.cons_append,ws,ih];omega
theorem tok_pos {t:Bt} (h:bgn t=true):1≤t.length:=by
 cases t with
 | nil=>simp [bgn] at h
 | cons=>simp
abbrev PeOk (md:Md) (s:Bt) (p:Nat) (x:Ex × Nat):Prop:=p≤x.2∧x.2≤s.length∧x.1.w+1≤md.wt+3*(x.2-p)∧(md.fn=true→p+1≤x.2)
theorem z1X {t u:Bt} (h:(t==u)=true):t.length=u.length:=by rw [beq_iff_eq] at h;rw [h]
theorem pe_ok:∀ (n:Nat) (md:Md) (s:Bt) (p:Nat) (x:Ex × Nat),md.sgn=true→pe n md s p=.ok x→p≤s.length→PeOk md s p x
 | 0,md,s,p,x,_,h,hp=>by simp [pe] at h
 | n+1,md,s,p,x,hsg,h,hp=>by
  have ih:=pe_ok n
  cases md with
  | only =>
   simp only [pe] at h
   obtain ⟨a,ha,h⟩:=z0Q h
   obtain ⟨y,hy,h⟩:=z0Q h
   obtain ⟨a1,a2,a3,a4⟩:=ih _ _ _ _ rfl ha hp
   have a4:=a4 rfl
   obtain ⟨y1,y2,y3⟩:=z2S hy a2
   simp only [PeOk,Md.wt] at a3 ⊢
   split at h
   ·rename_i hy1
    have y3:=y3 hy1
    simp only [List.length_cons,List.length_nil] at y3
    obtain ⟨t,ht,h⟩:=z0Q h
    obtain ⟨t1,t2,_,_⟩:=z2F ht y2
    obtain ⟨l,hl,h⟩:=z0Q h
    have hl':t.2≤l.2∧l.2≤s.length∧l.1.w≤3*(l.2-t.2)+1:=by
     split at hl
     ·injection hl with hl;subst hl;exact ⟨Nat.le_refl _,by simp only;omega,by simp [lf,Ex.w,ws]⟩
     ·obtain ⟨b1,b2,b3,b4⟩:=ih _ _ _ _ rfl hl (by omega)
      simp only [PeOk,Md.wt] at b3
      exact ⟨b1,b2,by omega⟩
    obtain ⟨l1,l2,l3⟩:=hl'
    obtain ⟨z,hz,h⟩:=z0Q h
    obtain ⟨z1,z2,z3⟩:=z2S hz l2
    split at h
    ·rename_i hz1
     have z3:=z3 hz1
     simp only [List.length_cons,List.length_nil] at z3
     obtain ⟨u,hu,h⟩:=z0Q h
     obtain ⟨u1,u2,_,_⟩:=z2F hu z2
     obtain ⟨r,hr,h⟩:=z0Q h
     have hr':u.2≤r.2∧r.2≤s.length∧r.1.w≤3*(r.2-u.2)+1:=by
      split at hr
      ·injection hr with hr;subst hr;exact ⟨Nat.le_refl _,by simp only;omega,by simp [lf,Ex.w,ws]⟩
      ·obtain ⟨b1,b2,b3,b4⟩:=ih _ _ _ _ rfl hr (by omega)
       simp only [PeOk,Md.wt] at b3
       exact ⟨b1,b2,by omega⟩
     obtain ⟨r1,r2,r3⟩:=hr'
     injection h with h;subst h
     simp only [PeOk,nd,Ex.w,ws,List.length_nil]
     exact ⟨by omega,by omega,by omega,fun _=>by omega⟩
    ·cases h
   ·injection h with h;subst h
    simp only [PeOk,Md.wt]
    exact ⟨by omega,by omega,by omega,fun _=>by omega⟩
  | but=>simp only [pe] at h;have r:=ih _ _ _ _ rfl h hp;exact r
  | or=>simp only [pe] at h;have r:=ih _ _ _ _ rfl h hp;exact r
  | and=>simp only [pe] at h;have r:=ih _ _ _ _ rfl h hp;exact r
  | shuffle=>simp only [pe] at h;have r:=ih _ _ _ _ rfl h hp;exact r
  | ignore=>simp only [pe] at h;have r:=ih _ _ _ _ rfl h hp;exact r
  | left op sg nx =>
   simp only [Md.sgn,Bool.and_eq_true] at hsg
   simp only [pe] at h
   obtain ⟨a,ha,h⟩:=z0Q h
   obtain ⟨a1,a2,a3,a4⟩:=ih _ _ _ _ hsg.1.2 ha hp
   have a4:=a4 hsg.2
   have hw0:nx.wt=0:=by have:=hsg.2;cases nx<;>first | rfl | cases this
   obtain ⟨b1,b2,b3,b4⟩:=ih (.leftL op sg nx a.1) _ _ _ (by simp only [Md.sgn,Bool.and_eq_true];exact hsg) h a2
   simp only [PeOk,Md.wt] at b3 ⊢
   exact ⟨by omega,b2,by omega,fun _=>by omega⟩
  | leftL op sg nx a =>
   have hsg':=hsg
   simp only [Md.sgn,Bool.and_eq_true,beq_iff_eq] at hsg
   simp only [pe] at h
   obtain ⟨y,hy,h⟩:=z0Q h
   obtain ⟨y1,y2,y3⟩:=z2S hy hp
   have hw0:nx.wt=0:=by have:=hsg.2;cases nx<;>first | rfl | cases this
   split at h
   ·rename_i hy1
    have y3:=y3 hy1
    rw [hsg.1.1] at y3
    obtain ⟨b,hb,h⟩:=z0Q h
    obtain ⟨b1,b2,b3,b4⟩:=ih _ _ _ _ hsg.1.2 hb y2
    obtain ⟨d1,d2,d3,d4⟩:=ih (.leftL op sg nx (nd op [a,b.1])) _ _ _ hsg' h b2
    simp only [PeOk,Md.wt,nd,Ex.w,ws,List.length_nil] at d3 ⊢
    exact ⟨by omega,d2,by omega,fun h=>by cases h⟩
   ·injection h with h;subst h
    simp only [PeOk,Md.wt]
    exact ⟨y1,y2,by omega,fun h=>by cases h⟩
  | all op sg nx =>
   simp only [Md.sgn,Bool.and_eq_true] at hsg
   simp only [pe] at h
   obtain ⟨a,ha,h⟩:=z0Q h
   obtain ⟨a1,a2,a3,a4⟩:=ih _ _ _ _ hsg.1.2 ha hp
   have a4:=a4 hsg.2
   have hw0:nx.wt=0:=by have:=hsg.2;cases nx<;>first | rfl | cases this
   obtain ⟨b1,b2,b3,b4⟩:=ih (.allL op sg nx [a.1]) _ _ _ (by simp only [Md.sgn,Bool.and_eq_true];exact ⟨hsg,rfl⟩) h a2
   simp only [PeOk,Md.wt,ws,List.length_cons,List.length_nil] at b3 ⊢
   exact ⟨by omega,b2,by omega,fun _=>by omega⟩
  | allL op sg nx l =>
   simp only [Md.sgn,Bool.and_eq_true,beq_iff_eq] at hsg
   have hne:l≠[]:=by have:=hsg.2;intro e;subst e;cases this
   simp only [pe] at h
   obtain ⟨y,hy,h⟩:=z0Q h
   obtain ⟨y1,y2,y3⟩:=z2S hy hp
   have hw0:nx.wt=0:=by have:=hsg.1.2;cases nx<;>first | rfl | cases this
   split at h
   ·rename_i hy1
    have y3:=y3 hy1
    rw [hsg.1.1.1] at y3
    obtain ⟨b,hb,h⟩:=z0Q h
    obtain ⟨b1,b2,b3,b4⟩:=ih _ _ _ _ hsg.1.1.2 hb y2
    obtain ⟨d1,d2,d3,d4⟩:=ih (.allL op sg nx (l++[b.1])) _ _ _ (by
     simp only [Md.sgn,Bool.and_eq_true,beq_iff_eq]
     exact ⟨⟨⟨hsg.1.1.1,hsg.1.1.2⟩,hsg.1.2⟩,by cases l<;>rfl⟩) h b2
    simp only [PeOk,Md.wt,ws_app,ws,List.length_append,List.length_cons,List.length_nil] at d3 ⊢
    exact ⟨by omega,d2,by omega,fun h=>by cases h⟩
   ·injection h with h;subst h
    have:=oneOr_w op hne
    simp only [PeOk,Md.wt]
    exact ⟨y1,y2,by omega,fun h=>by cases h⟩
  | chain =>
   simp only [pe] at h
   obtain ⟨a,ha,h⟩:=z0Q h
   obtain ⟨a1,a2,a3,a4⟩:=ih _ _ _ _ rfl ha hp
   have a4:=a4 rfl
   obtain ⟨b1,b2,b3,b4⟩:=ih (.chainL [a.1]) _ _ _ rfl h a2
   simp only [PeOk,Md.wt,ws,List.length_cons,List.length_nil] at a3 b3 ⊢
   exact ⟨by omega,b2,by omega,fun _=>by omega⟩
  | chainL l =>
   have hne:l≠[]:=by intro e;subst e;cases hsg
   simp only [pe] at h
   obtain ⟨t,ht,h⟩:=z0Q h
   obtain ⟨t1,t2,_,_⟩:=z2F ht hp
   split at h
   ·obtain ⟨b,hb,h⟩:=z0Q h
    obtain ⟨b1,b2,b3,b4⟩:=ih _ _ _ _ rfl hb (by omega)
    obtain ⟨d1,d2,d3,d4⟩:=ih (.chainL (l++[b.1])) _ _ _ (by cases l<;>rfl) h b2
    simp only [PeOk,Md.wt,ws_app,ws,List.length_append,List.length_cons,List.length_nil] at b3 d3 ⊢
    exact ⟨by omega,d2,by omega,fun h=>by cases h⟩
   ·injection h with h;subst h
    have:=oneOr_w 4 hne
    simp only [PeOk,Md.wt]
    exact ⟨t1,by omega,by omega,fun h=>by cases h⟩
  | ahead =>
   simp only [pe] at h
   obtain ⟨t,ht,h⟩:=z0Q h
   obtain ⟨t1,t2,_,_⟩:=z2F ht hp
   split at h
   ·rename_i e
    have:=z1X e
    simp only [List.length_cons,List.length_nil] at this
    obtain ⟨b,hb,h⟩:=z0Q h
    obtain ⟨b1,b2,b3,b4⟩:=ih _ _ _ _ rfl hb (by omega)
    injection h with h;subst h
    simp only [PeOk,Md.wt,nd,Ex.w,ws,List.length_nil] at b3 ⊢
    exact ⟨by omega,b2,by omega,fun _=>by omega⟩
   ·split at h
    ·rename_i e
     have:=z1X e
     simp only [List.length_cons,List.length_nil] at this
     obtain ⟨b,hb,h⟩:=z0Q h
     obtain ⟨b1,b2,b3,b4⟩:=ih _ _ _ _ rfl hb (by omega)
     injection h with h;subst h
     simp only [PeOk,Md.wt,nd,Ex.w,ws,List.length_nil] at b3 ⊢
     exact ⟨by omega,b2,by omega,fun _=>by omega⟩
    ·obtain ⟨b,hb,h⟩:=z0Q h
     obtain ⟨b1,b2,b3,b4⟩:=ih _ _ _ _ rfl hb (by omega)
     have b4:=b4 rfl
     obtain ⟨d1,d2,d3,d4⟩:=ih (.postL b.1) _ _ _ rfl h b2
     simp only [PeOk,Md.wt] at b3 d3 ⊢
     exact ⟨by omega,d2,by omega,fun _=>by omega⟩
  | postL a =>
   simp only [pe] at h
   obtain ⟨t,ht,h⟩:=z0Q h
   obtain ⟨t1,t2,_,_⟩:=z2F ht hp
   have go:∀ op:Int,1≤t.1.length→pe n (.postL (nd op [a])) s (t.2+1)=.ok x→PeOk (.postL a) s p x:=by
    intro op h1 h
    obtain ⟨d1,d2,d3,d4⟩:=ih (.postL (nd op [a])) _ _ _ rfl h (by omega)
    simp only [PeOk,Md.wt,nd,Ex.w,ws,List.length_nil] at d3 ⊢
    exact ⟨by omega,d2,by omega,fun h=>by cases h⟩
   split at h
   ·rename_i e;exact go 8 (by rw [z1X e];simp) h
   ·split at h
    ·rename_i e;exact go 9 (by rw [z1X e];simp) h
    ·split at h
     ·rename_i e;exact go 10 (by rw [z1X e];simp) h
     ·injection h with h;subst h
      simp only [PeOk,Md.wt]
      exact ⟨t1,by omega,by omega,fun h=>by cases h⟩
  | atom =>
   simp only [pe] at h
   obtain ⟨t,ht,h⟩:=z0Q h
   obtain ⟨t1,t2,_,_⟩:=z2F ht hp
   split at h
   ·cases h
   rename_i hb
   have hl:=tok_pos (t:=t.1) (by simpa using hb)
   simp only [PeOk,Md.wt]
   split at h
   ·injection h with h;subst h
    simp only [lf,Ex.w,ws,List.length_nil]
    exact ⟨by omega,by omega,by omega,fun _=>by omega⟩
   split at h
   ·rename_i e
    have:=z1X e
    simp only [List.length_cons,List.length_nil] at this
    injection h with h;subst h
    simp only [lf,Ex.w,ws,List.length_nil]
    exact ⟨by omega,by omega,by omega,fun _=>by omega⟩
   split at h
   ·injection h with h;subst h
    simp only [lf,Ex.w,ws,List.length_nil]
    exact ⟨by omega,by omega,by omega,fun _=>by omega⟩
   split at h
   ·obtain ⟨b,hb,h⟩:=z0Q h
    obtain ⟨b1,b2,b3,b4⟩:=ih _ _ _ _ rfl hb (by omega)
    obtain ⟨y,hy,h⟩:=z0Q h
    obtain ⟨y1,y2,y3⟩:=z2S hy b2
    split at h
    ·injection h with h;subst h
     simp only [PeOk,Md.wt] at b3
     simp only [PeOk,Md.wt]
     exact ⟨by omega,by omega,by omega,fun _=>by omega⟩
    ·cases h
   split at h
   ·injection h with h;subst h
    simp only [Ex.w,ws,List.length_drop]
    exact ⟨by omega,by omega,by omega,fun _=>by omega⟩
   split at h
   ·injection h with h;subst h
    simp only [Ex.w,ws,List.length_drop,List.length_take]
    exact ⟨by omega,by omega,by omega,fun _=>by omega⟩
   ·injection h with h;subst h
    simp only [Ex.w,ws]
    exact ⟨by omega,by omega,by omega,fun _=>by omega⟩
theorem z1V {α β:Type} {x:PR α} {f:α→PR β} (h:x≠.oof) (hf:∀ a,x=.ok a→f a≠.oof):x.bind f≠.oof:=by
 cases x with
 | oof=>exact absurd rfl h
 | bad=>intro h;cases h
 | ok a=>exact hf a rfl
theorem tkn_no (s:Bt) (p:Nat):tkn s p≠.oof:=by
 unfold tkn;split<;>(intro h;cases h)
theorem tak_no (t s:Bt) (p:Nat):tak t s p≠.oof:=by
 unfold tak
 refine z1V (tkn_no _ _) fun a _=>?_
 split<;>(intro h;cases h)
def Md.rk:Md→Nat
 | .atom=>1
 | .ahead=>2
 | .chain=>3
 | .ignore=>5
 | .shuffle=>7
 | .and=>9
 | .or=>11
 | .but=>13
 | .only=>14
 | .left _ _ nx=>nx.rk+1
 | .all _ _ nx=>nx.rk+1
 | .leftL _ _ nx _=>nx.rk+1
 | .allL _ _ nx _=>nx.rk+1
 | .chainL _=>3
 | .postL _=>2
theorem pe_fuel:∀ (n:Nat) (md:Md) (s:Bt) (p:Nat),md.rk≤14→md.sgn=true→p≤s.length→15*(s.length-p)+md.rk≤n→pe n md s p≠.oof
 | 0,md,s,p,hr,_,hp,hn=>by cases md<;>simp [Md.rk] at hn
 | n+1,md,s,p,hr,hsg,hp,hn=>by
  have ih:=pe_fuel n
  have ok:=pe_ok n
  have okno:∀ {α:Type} (a:α),PR.ok a≠.oof:=fun a h=>by cases h
  have badno:∀ {α:Type},(PR.bad:PR α)≠.oof:=fun h=>by cases h
  cases md with
  | only =>
   simp only [Md.rk] at hn
   simp only [pe]
   refine z1V (ih .but s p (by decide) rfl hp (by simp only [Md.rk];omega)) fun a ha=>z1V (tak_no _ _ _) fun y hy=>?_
   obtain ⟨a1,a2,_,a4⟩:=ok _ _ _ _ rfl ha hp
   obtain ⟨y1,y2,y3⟩:=z2S hy a2
   have a4:=a4 rfl
   split
   ·refine z1V (tkn_no _ _) fun t ht=>?_
    obtain ⟨t1,t2,_,_⟩:=z2F ht y2
    refine z1V ?_ fun l hl=>z1V (tak_no _ _ _) fun z hz=>?_
    ·split
     ·exact okno _
     ·exact ih .but s _ (by decide) rfl (by omega) (by simp only [Md.rk];omega)
    ·have hl':t.2≤l.2∧l.2≤s.length:=by
      split at hl
      ·injection hl with hl;subst hl;exact ⟨Nat.le_refl _,by simp only;omega⟩
      ·obtain ⟨b1,b2,b3,b4⟩:=ok _ _ _ _ rfl hl (by omega)
       exact ⟨b1,b2⟩
     obtain ⟨z1,z2,z3⟩:=z2S hz hl'.2
     split
     ·refine z1V (tkn_no _ _) fun u hu=>?_
      obtain ⟨u1,u2,_,_⟩:=z2F hu z2
      refine z1V ?_ fun r hr=>okno _
      split
      ·exact okno _
      ·exact ih .but s _ (by decide) rfl (by omega) (by simp only [Md.rk];omega)
     ·exact badno
   ·exact okno _
  | but=>simp only [pe];exact ih _ s p (by decide) rfl hp (by simp only [Md.rk] at hn ⊢;omega)
  | or=>simp only [pe];exact ih _ s p (by decide) rfl hp (by simp only [Md.rk] at hn ⊢;omega)
  | and=>simp only [pe];exact ih _ s p (by decide) rfl hp (by simp only [Md.rk] at hn ⊢;omega)
  | shuffle=>simp only [pe];exact ih _ s p (by decide) rfl hp (by simp only [Md.rk] at hn ⊢;omega)
  | ignore=>simp only [pe];exact ih _ s p (by decide) rfl hp (by simp only [Md.rk] at hn ⊢;omega)
  | left op sg nx =>
   simp only [Md.rk] at hn hr
   simp only [Md.sgn,Bool.and_eq_true] at hsg
   simp only [pe]
   refine z1V (ih nx s p (by omega) hsg.1.2 hp (by omega)) fun a ha=>?_
   obtain ⟨a1,a2,_,a4⟩:=ok _ _ _ _ hsg.1.2 ha hp
   have a4:=a4 hsg.2
   exact ih _ s _ (by simp only [Md.rk];omega) (by simp only [Md.sgn,Bool.and_eq_true];exact hsg) a2 (by simp only [Md.rk];omega)
  | leftL op sg nx a =>
   have hsg':=hsg
   simp only [Md.rk] at hn hr
   simp only [Md.sgn,Bool.and_eq_true,beq_iff_eq] at hsg
   simp only [pe]
   refine z1V (tak_no _ _ _) fun y hy=>?_
   obtain ⟨y1,y2,y3⟩:=z2S hy hp
   split
   ·rename_i h1
    have y3:=y3 h1
    rw [hsg.1.1] at y3
    refine z1V (ih nx s _ (by omega) hsg.1.2 y2 (by omega)) fun b hb=>?_
    obtain ⟨b1,b2,_,_⟩:=ok _ _ _ _ hsg.1.2 hb y2
    exact ih _ s _ (by simp only [Md.rk];omega) hsg' b2 (by simp only [Md.rk];omega)
   ·exact okno _
  | all op sg nx =>
   simp only [Md.rk] at hn hr
   simp only [Md.sgn,Bool.and_eq_true] at hsg
   simp only [pe]
   refine z1V (ih nx s p (by omega) hsg.1.2 hp (by omega)) fun a ha=>?_
   obtain ⟨a1,a2,_,a4⟩:=ok _ _ _ _ hsg.1.2 ha hp
   have a4:=a4 hsg.2
   exact ih _ s _ (by simp only [Md.rk];omega) (by simp only [Md.sgn,Bool.and_eq_true];exact ⟨hsg,rfl⟩) a2 (by simp only [Md.rk];omega)
  | allL op sg nx l =>
   simp only [Md.rk] at hn hr
   simp only [Md.sgn,Bool.and_eq_true,beq_iff_eq] at hsg
   simp only [pe]
   refine z1V (tak_no _ _ _) fun y hy=>?_
   obtain ⟨y1,y2,y3⟩:=z2S hy hp
   split
   ·rename_i h1
    have y3:=y3 h1
    rw [hsg.1.1.1] at y3
    refine z1V (ih nx s _ (by omega) hsg.1.1.2 y2 (by omega)) fun b hb=>?_
    obtain ⟨b1,b2,_,_⟩:=ok _ _ _ _ hsg.1.1.2 hb y2
    exact ih _ s _ (by simp only [Md.rk];omega) (by
     simp only [Md.sgn,Bool.and_eq_true,beq_iff_eq]
     exact ⟨⟨⟨hsg.1.1.1,hsg.1.1.2⟩,hsg.1.2⟩,by cases l<;>rfl⟩) b2 (by simp only [Md.rk];omega)
   ·exact okno _
  | chain =>
   simp only [Md.rk] at hn
   simp only [pe]
   refine z1V (ih .ahead s p (by decide) rfl hp (by simp only [Md.rk];omega)) fun a ha=>?_
   obtain ⟨a1,a2,_,a4⟩:=ok _ _ _ _ rfl ha hp
   have a4:=a4 rfl
   exact ih _ s _ (by simp only [Md.rk];omega) rfl a2 (by simp only [Md.rk];omega)
  | chainL l =>
   simp only [Md.rk] at hn
   simp only [pe]
   refine z1V (tkn_no _ _) fun t ht=>?_
   obtain ⟨t1,t2,_,_⟩:=z2F ht hp
   split
   ·refine z1V (ih .ahead s _ (by decide) rfl (by omega) (by simp only [Md.rk];omega)) fun b hb=>?_
    obtain ⟨b1,b2,_,b4⟩:=ok _ _ _ _ rfl hb (by omega)
    have b4:=b4 rfl
    exact ih _ s _ (by simp only [Md.rk];omega) (by cases l<;>rfl) b2 (by simp only [Md.rk];omega)
   ·exact okno _
  | ahead =>
   simp only [Md.rk] at hn
   simp only [pe]
   refine z1V (tkn_no _ _) fun t ht=>?_
   obtain ⟨t1,t2,_,_⟩:=z2F ht hp
   split
   ·rename_i e
    have:=z1X e
    simp only [List.length_cons,List.length_nil] at this
    exact z1V (ih .ahead s _ (by decide) rfl (by omega) (by simp only [Md.rk];omega)) fun _ _=>okno _
   ·split
    ·rename_i e
     have:=z1X e
     simp only [List.length_cons,List.length_nil] at this
     exact z1V (ih .ahead s _ (by decide) rfl (by omega) (by simp only [Md.rk];omega)) fun _ _=>okno _
    ·refine z1V (ih .atom s _ (by decide) rfl (by omega) (by simp only [Md.rk];omega)) fun b hb=>?_
     obtain ⟨b1,b2,_,b4⟩:=ok _ _ _ _ rfl hb (by omega)
     have b4:=b4 rfl
     exact ih _ s _ (by simp only [Md.rk];omega) rfl b2 (by simp only [Md.rk];omega)
  | postL a =>
   simp only [Md.rk] at hn
   simp only [pe]
   refine z1V (tkn_no _ _) fun t ht=>?_
   obtain ⟨t1,t2,_,_⟩:=z2F ht hp
   have go:∀ op:Int,1≤t.1.length→pe n (.postL (nd op [a])) s (t.2+1)≠.oof:=fun op h1=>ih _ s _ (by simp only [Md.rk];omega) rfl (by omega) (by simp only [Md.rk];omega)
   split
   ·rename_i e;exact go 8 (by rw [z1X e];simp)
   ·split
    ·rename_i e;exact go 9 (by rw [z1X e];simp)
    ·split
     ·rename_i e;exact go 10 (by rw [z1X e];simp)
     ·exact okno _
  | atom =>
   simp only [Md.rk] at hn
   simp only [pe]
   refine z1V (tkn_no _ _) fun t ht=>?_
   obtain ⟨t1,t2,_,_⟩:=z2F ht hp
   split
   ·exact badno
   rename_i hb
   have hl:=tok_pos (t:=t.1) (by simpa using hb)
   split;· exact okno _
   split;· exact okno _
   split;· exact okno _
   split
   ·refine z1V (ih .only s _ (by decide) rfl (by omega) (by simp only [Md.rk];omega)) fun b hb=>z1V (tak_no _ _ _) fun y hy=>?_
    split
    ·exact okno _
    ·exact badno
   split;· exact okno _
   split;· exact okno _
   exact okno _
section steps
variable {P:Program} {H G:Heap} {al:AL} {K:KL} {Qp:AL→AV→Heap→Prop} {os:List IOper} {d:Nat} {x y z:Arg}
theorem z1M {zs:List AV} (h:VV P os ((d,.ptr H.length 0)::al) (H++[.cells zs]) K Qp):VV P (⟨some d,.i (.m (.alloc zs)),[],none,none⟩::os) al H K Qp:=by
 refine st_i ?_ h
 show some (AV.ptr H.length 0,put H H.length (.cells zs))=_
 unfold put;rw [if_neg (by omega)]
theorem z4U {id:Nat} {a b c:AV} (hx:evL al x=.ptr id 0) (hg:H[id]? =some (.cells [a,b,c])) (h:VV P os ((d,.agg [a,b,c])::al) H K Qp):VV P (⟨some d,.i (.m (.load (some 3))),[x],none,none⟩::os) al H K Qp :=
 z1N hx hg rfl h
theorem st_mkfB {g:Nat} {v:AV} (hx:evL al x=v) (h:VV P os ((d,.clo (.func g) [v] [])::al) H K Qp):VV P (⟨some d,.i (.d (.mkFunc (.func g) 1)),[x],none,none⟩::os) al H K Qp :=
 z2V (v:=.clo (.func g) [v] []) (by simp only [evsL,hx,dsem];rfl) h
end steps
theorem z0B {g n:Prop} (k:n) (h:Hide n→g:=by (intro k);(repeat (first | ((with_reducible apply z1W);focus (first | exact ev_c | (apply ev_t;(repeat (first | exact z1K | (apply z0Y;focus exact rfl) | exact lk_nil))))) | ((with_reducible apply z2B);exact rfl) | ((with_reducible apply st_iface);exact rfl) | ((with_reducible apply z4Q);exact rfl;exact rfl;(focus omega)) | ((with_reducible apply z3R);exact rfl;exact rfl;(focus omega)) | ((with_reducible apply z1M)) | ((with_reducible apply z4U);exact rfl;(focus assumption)) | ((with_reducible apply st_mkfB);exact rfl) | ((with_reducible apply st_adds);exact rfl;exact rfl;(focus ((try simp only [List.length_append,List.length_cons,List.length_nil]);omega))) | ((with_reducible apply st_idxA);(focus (first | exact ev_c | (apply ev_t;(repeat (first | exact z1K | (apply z0Y;focus exact rfl) | exact lk_nil)))));(focus assumption);exact rfl;(focus assumption)) | ((with_reducible apply st_idxS);(focus (first | exact ev_c | (apply ev_t;(repeat (first | exact z1K | (apply z0Y;focus exact rfl) | exact lk_nil)))));(focus assumption);exact rfl;(focus assumption)) | ((with_reducible apply z3T);exact rfl;exact rfl) | ((with_reducible apply z3F);exact rfl) | ((with_reducible apply st_lss);exact rfl;exact rfl) | ((with_reducible apply st_eqi);exact rfl;exact rfl) | ((with_reducible apply st_field);exact rfl;exact rfl) | ((with_reducible apply z3G);exact rfl;exact rfl) | ((with_reducible apply st_gtr);exact rfl;exact rfl) | ((with_reducible apply st_leq);exact rfl;exact rfl) | ((with_reducible apply st_geq);exact rfl;exact rfl) | ((with_reducible apply st_nei);exact rfl;exact rfl) | ((with_reducible apply st_eqs);exact rfl;exact rfl) | ((with_reducible apply st_nes);exact rfl;exact rfl) | ((with_reducible apply st_lts);exact rfl;exact rfl) | ((with_reducible apply st_gts);exact rfl;exact rfl) | ((with_reducible apply st_not);exact rfl) | ((with_reducible apply z3V);exact rfl;exact rfl) | ((with_reducible apply z4F);exact rfl;exact rfl) | ((with_reducible apply st_len);(focus (first | exact ev_c | (apply ev_t;(repeat (first | exact z1K | (apply z0Y;focus exact rfl) | exact lk_nil)))));(focus assumption)) | ((with_reducible apply st_idx);(focus (first | exact ev_c | (apply ev_t;(repeat (first | exact z1K | (apply z0Y;focus exact rfl) | exact lk_nil)))));(focus assumption);exact rfl;(focus assumption)) | ((with_reducible apply z3U);exact rfl;exact rfl;(focus assumption)) | ((with_reducible apply z2T);exact rfl;exact rfl;exact rfl;exact rfl;exact rfl;(focus (first | exact rfl | exact z1C));exact rfl) | ((with_reducible apply z3S);exact rfl;exact rfl;exact rfl) | ((with_reducible apply z4V);exact rfl;(focus (first | assumption | exact z0F (by assumption)));exact rfl) | ((with_reducible apply z2Y);exact rfl;exact rfl) | ((with_reducible apply z2Z);exact rfl;(focus (first | exact ev_c | (apply ev_t;(repeat (first | exact z1K | (apply z0Y;focus exact rfl) | exact lk_nil)))));exact rfl;exact rfl;exact rfl;exact rfl) | ((with_reducible apply z4E);exact rfl;exact rfl;exact rfl) | ((with_reducible apply z1N);exact rfl;(focus (first | assumption | exact z0F (by assumption)));exact rfl) | ((with_reducible apply st_box);(focus (first | exact ev_c | (apply ev_t;(repeat (first | exact z1K | (apply z0Y;focus exact rfl) | exact lk_nil)))));exact rfl;exact rfl;exact rfl) | ((with_reducible apply z1B);exact rfl) | ((with_reducible apply z3J);exact rfl) | ((with_reducible apply z2X);exact rfl;exact rfl;(focus (first | decide | omega))) | ((with_reducible apply z4W);exact rfl;(focus omega)) | ((with_reducible apply z3N);focus (repeat (first | exact kp_nil | ((with_reducible apply kp);focus (repeat (first | exact z1K | (apply z0Y;focus exact rfl) | exact lk_nil)))))) | ((with_reducible apply vs_end);focus (repeat (first | exact kp_nil | ((with_reducible apply kp);focus (repeat (first | exact z1K | (apply z0Y;focus exact rfl) | exact lk_nil)))))) | ((with_reducible apply vs_q);exact rfl;exact rfl) | ((with_reducible apply vs_b);exact rfl;exact rfl;(focus exact Nat.le_refl _)) | ((with_reducible apply st_finB)) | (with_reducible apply st_finQ) | ((with_reducible apply z4R);(focus (first | exact rfl | exact congrArg AV.bool (by assumption)));(focus (first | exact ev_c | (apply ev_t;(repeat (first | exact z1K | (apply z0Y;focus exact rfl) | exact lk_nil)))))) | ((with_reducible apply z4S);(focus (first | exact rfl | exact congrArg AV.bool (by assumption)));(focus (first | exact ev_c | (apply ev_t;(repeat (first | exact z1K | (apply z0Y;focus exact rfl) | exact lk_nil)))))) | ((with_reducible apply st_yes);(focus (first | exact rfl | exact congrArg AV.bool (by assumption)))) | ((with_reducible apply st_noT);(focus (first | exact rfl | exact congrArg AV.bool (by assumption)))) | ((with_reducible apply st_noF);(focus (first | exact rfl | exact congrArg AV.bool (by assumption)))) | ((with_reducible apply st_no');exact rfl) | with_reducible refine z2W ?_ | with_reducible refine z1Z ?_ | with_reducible refine nx_n ?_ | with_reducible refine z4A ?_ | with_reducible refine z5D ?_ | with_reducible refine iw_ret ?_ | with_reducible refine iw_exit ?_ | with_reducible refine nx_x ?_ | with_reducible refine nx_r ?_ | with_reducible refine bk_n ?_ | with_reducible refine bk_r ?_ | with_reducible refine bk_x ?_ | with_reducible refine bk_y rfl ?_ | ((with_reducible apply iw_yes);(focus (first | exact rfl | exact congrArg AV.bool (by assumption)))) | ((with_reducible apply iw_no);(focus (first | exact rfl | exact congrArg AV.bool (by assumption)))) | refine z2W ?_ | refine iw_drawq rfl rfl ?_ | with_reducible refine iw_drawS ?_));(exact k.h)):g:=h ⟨k⟩
abbrev flatE (l:List Ex):List AV:=flat (l.map enc)
theorem z2K (l:List Ex):(flatE l).length=l.length*3:=by
 have:=flat_len (xs:=l.map enc) (sz:=3) (fun x hx=>by
  obtain ⟨e,_,rfl⟩:=List.mem_map.1 hx
  obtain ⟨a,b,c,d⟩:=e;rw [z0X];rfl)
 rw [this,List.length_map]
theorem z2L (l m:List Ex):flatE (l++m)=flatE l++flatE m:=by simp [flat]
theorem z0U (op:Int) (s:Bt) (nl:Bool) (l:List Ex):flatE [.mk op s nl l]=[.int .i64 op,.str s,lst nl l]:=by
 show (enc _).cells++[]=_
 rw [z0X];rfl
theorem z4B (l:List Ex):(flatE l).all AV.scalar=true:=by
 induction l with
 | nil=>rfl
 | cons e l ih =>
  obtain ⟨a,b,c,d⟩:=e
  have:flatE (.mk a b c d::l)=[.int .i64 a,.str b,lst c d]++flatE l:=by
   rw [←z0U,←z2L];rfl
  rw [this,List.all_append,ih]
  simp only [List.all_cons,scalar_lst,List.all_nil];rfl
def PePost (H:Heap) (rid:Nat) (s:Bt) (x:PR (Ex × Nat)):CPost :=
 Ends (fun v H'=>∃ e q,x=.ok (e,q)∧v=enc e∧Mod H rid (RB s q) H') (fun v H'=>x=.bad∧∃ q,v=wrongA q∧Mod H rid (RB s q) H')
abbrev PePostX (H:Heap) (rid:Nat) (s:Bt) (x:PR (Ex × Nat)):CPost :=
 EndsX H.length (fun v H'=>∃ e q,x=.ok (e,q)∧v=enc e∧Mod H rid (RB s q) H') (fun v H'=>x=.bad∧∃ q,v=wrongA q∧Mod H rid (RB s q) H')
def WOk (n:Nat) (f:FuncId) (md:Md):Prop:=∀ {rid:Nat} {s:Bt} {p:Nat} {H:Heap},H[rid]? =some (RB s p)→p≤s.length→s.length≤6000→pe n md s p≠.oof→ACall PP f [.ptr rid 0] H (PePost H rid s (pe n md s p))
theorem fin_node {H H':Heap} {rid id q:Nat} {op:Int} {s:Bt} {l:List Ex} {x:PR (Ex × Nat)} (hx:x=.ok (nd op l,q)) (hg:H'[id]? =some (.cells (flatE l))) (hid:H.length≤id) (hm:Mod H rid (RB s q) H') (hr:rid<H.length) :
  PePostX H rid s x (.ret (.agg [.int .i64 op,.str [],.sl id 0 l.length 3])) H':=by
 have hs:SealsX H.length (.agg [.int .i64 op,.str [],.sl id 0 l.length 3]) H' (enc (nd op l)) (H'.set id .dead):=by
  refine .step id _ hid hg (.base _ _ ?_) (.done _ _)
  unfold nd
  rw [z0X]
  refine .agg _ _ rfl fun i=>?_
  match i with
  | 0=>exact .refl _
  | 1=>exact .refl _
  | 2 =>
   show SealR id _ (.sl id 0 l.length 3) (lst false l)
   have e:lst false l=.list 3 (l.map enc):=by simp [lst]
   rw [e]
   refine .sl 0 _ 3 (l.map enc) (by simp) (fun x hx=>?_) ?_ ?_
   ·obtain ⟨e,_,rfl⟩:=List.mem_map.1 hx
    obtain ⟨a,b,c,d⟩:=e;rw [z0X];rfl
   ·rw [List.drop_zero,←z2K,List.take_length]
   ·rw [z2K];omega
  | i+3=>exact .refl _
 exact .inl ⟨_,_,_,rfl,hs,_,q,hx,rfl,hm.seals hr (Nat.le_refl _) hs⟩
theorem z4J {H H':Heap} {rid q:Nat} {s:Bt} {e:Ex} {x:PR (Ex × Nat)} {v:AV} (hv:v=enc e) (hx:x=.ok (e,q)) (hm:Mod H rid (RB s q) H'):PePostX H rid s x (.ret v) H':=by
 subst hv
 exact .inl ⟨_,_,_,rfl,.done _ _,_,q,hx,rfl,hm⟩
theorem z1Q {H H':Heap} {rid q:Nat} {s:Bt} {x:PR (Ex × Nat)} (hx:x=.bad) (hm:Mod H rid (RB s q) H'):PePostX H rid s x (.panic (wrongA q)) H':=.inr ⟨_,rfl,hx,q,rfl,hm⟩
end Go.Ab
