/- Part 49 of the proof. -/
import Derived.Test.YteaellpidegbiaaGreatDoorA40
import Derived.Test.YteaellpidegbiaaGreatDoorA48
set_option linter.unusedVariables false
set_option linter.unusedSimpArgs false
namespace Go.Ab
open Go
set_option maxRecDepth 100000
set_option maxHeartbeats 8000000
def longW (p:Pr):Bool:=decide ((p.a.l.length:Int)>60)||decide ((p.b.l.length:Int)>60)
def rpR (s:Bt):Ru × Int :=
 if decide ((s.length:Int)>6000) then (Ru0,3) else match wholeR (spl s) with
 | none=>(Ru0,2)
 | some (r,bad,lg)=>if lg||r.pairs.any longW then (Ru0,3) else
  if (if vrule2 r != 3&&bad != 0 then bad else vrule2 r) != 0 then (Ru0,if vrule2 r != 3&&bad != 0 then bad else vrule2 r) else (r,0)
theorem cutR_ok {s:Bt} {w:List Bt} (h:cutR s=some w) (hs:s.length≤100000):okW w:=by
 unfold cutR at h
 obtain ⟨a,b⟩:=wordF_ok 100000 _ _ _ _ h hs (by simp)
 simp at a
 exact ⟨by omega,fun y hy=>by have:=b y hy;unfold okS;omega⟩
theorem wdR_ok {s:Bt} (hs:s.length≤100000):okW (wdR s).l:=by
 unfold wdR
 simp only
 split
 ·exact ⟨by simp,by simp⟩
 ·cases h:cutR s with
  | none=>exact ⟨by simp,by simp⟩
  | some w=>exact cutR_ok h hs
theorem prR_ok {l:List Bt} (hl:∀ y∈l,y.length≤6000):∀ {n p:Nat} {kd:Int} {prs:List Pr} {lg:Bool} {x:Int × List Pr × Nat × Bool},prR l n p kd prs lg=some x→(∀ q∈prs,okP q)→(∀ q∈x.2.1,okP q)∧x.2.1.length≤prs.length+n
 | 0,_,_,_,_,_,h,_=>by cases h
 | n+1,p,kd,prs,lg,x,h,hp=>by
  have hgl:∀ i,(l.getD i []).length≤100000:=fun i=>by
   rw [List.getD_eq_getElem?_getD]
   cases hi:l[i]? with
   | none=>simp
   | some y=>have:=hl y (List.mem_of_getElem? hi);show y.length≤100000;omega
  rw [prR] at h
  have hp':∀ q∈prs++[(⟨wdR (l.getD p []),wdR (l.getD (pcA l (pcA l p)) [])⟩:Pr)],okP q:=by
   intro q hq
   rcases List.mem_append.1 hq with hq | hq
   ·exact hp q hq
   ·rw [List.mem_singleton] at hq;subst hq;exact ⟨wdR_ok (hgl _),wdR_ok (hgl _)⟩
  split at h
  ·cases h
  ·split at h
   ·obtain ⟨a,b⟩:=prR_ok hl h hp'
    exact ⟨a,by simp at b;omega⟩
   ·injection h with h;subst h
    exact ⟨hp',by simp⟩
theorem sideR_ok {sg:Bt} {ps:List Bt} {e:Ex} {f:Int} {k:Nat} (h:sideR sg ps=some (e,f,k)):okE e:=by
 have hlf:okE (lf 2):=by simp [okE,lf,Ex.w,ws]
 unfold sideR at h
 simp only at h
 split at h
 ·injection h with h;injection h with h _;subst h;exact hlf
 ·split at h
  ·cases h
  ·split at h
   ·cases h
   ·split at h
    ·injection h with h;injection h with h _;subst h;exact hlf
    ·injection h with h;injection h with h _;subst h;exact exP_ok _
theorem placeR_ok {ps:List Bt} {a b:Ex} {fa fb:Int} {k:Nat} (h:placeR ps=some (a,b,fa,fb,k)):okE a∧okE b:=by
 unfold placeR at h
 split at h
 ·cases h
 ·rename_i a1 f1 k1 h1
  split at h
  ·split at h
   ·cases h
   ·rename_i b1 f2 k2 h2
    injection h with h;injection h with e1 h;injection h with e2 h
    subst e1;subst e2
    exact ⟨sideR_ok h1,sideR_ok h2⟩
  ·cases h
theorem plsR_ok:∀ {n:Nat} {ps:List Bt} {acc:List Pl} {bad:Int} {P:List Pl} {b:Int},plsR n ps acc bad=some (P,b)→(∀ p∈acc,okE p.1∧okE p.2)→(∀ p∈P,okE p.1∧okE p.2)∧P.length≤acc.length+n
 | 0,_,_,_,_,_,h,_=>by cases h
 | n+1,ps,acc,bad,P,b,h,ha=>by
  simp only [plsR] at h
  split at h
  ·cases h
  ·rename_i a1 b1 f1 f2 k hp
   have ha':∀ p∈acc++[(a1,b1)],okE p.1∧okE p.2:=by
    intro p hpm
    rcases List.mem_append.1 hpm with hpm | hpm
    ·exact ha p hpm
    ·rw [List.mem_singleton] at hpm;subst hpm;exact placeR_ok hp
   split at h
   ·injection h with h;injection h with h _;subst h
    exact ⟨ha',by simp⟩
   ·split at h
    ·obtain ⟨a,b⟩:=plsR_ok h ha'
     exact ⟨a,by simp at b;omega⟩
    ·cases h
theorem wholeR_ok {l:List Bt} (hl:∀ y∈l,y.length≤6000) (hn:l.length≤10000) {r:Ru} {bad:Int} {lg:Bool} (h:wholeR l=some (r,bad,lg)):okR r:=by
 unfold wholeR at h
 split at h
 ·cases h
 ·rename_i kd prs q lg' hp
  obtain ⟨p1,p2⟩:=prR_ok hl hp (by simp)
  simp only [List.length_nil] at p1 p2
  split at h
  ·injection h with h;injection h with h _;subst h
   exact ⟨by simp only;omega,by simp,p1,by simp⟩
  ·split at h
   ·split at h
    ·cases h
    ·rename_i ps b hq
     obtain ⟨q1,q2⟩:=plsR_ok hq (by simp)
     simp only [List.length_nil] at q2
     injection h with h;injection h with h _;subst h
     exact ⟨by simp only;omega,by simp only;omega,p1,q1⟩
   ·split at h
    ·split at h
     ·cases h
     ·rename_i ps b hq
      obtain ⟨q1,q2⟩:=plsR_ok hq (by simp)
      simp only [List.length_nil] at q2
      injection h with h;injection h with h _;subst h
      exact ⟨by simp only;omega,by simp only;omega,p1,q1⟩
    ·cases h
theorem res7 {al:AL} {H':Heap} {n:Nat} {cs:List AV} {a:AV} (h2:look al 2=.ptr n 0) (h3:look al 3=a) (hg:H'[n]? =some (.cells cs)) (hl:cs.length=4) :
  resultL ic7.rs al H'=some (.tuple [.agg cs,a]):=by
 have hd:dpart (some 4) cs 0=some (.agg cs):=dpart_all hl
 have e:rload (some 4) (look al 2) H'=some (.agg cs):=by rw [h2];simp only [rload,hg,hd]
 show (match resVL [.cell 2 (some 4),.tmp 3] al H' with | some [v]=>some v | some vs=>some (.tuple vs) | none=>none)=_
 simp only [resVL,e,h3]
theorem c7 (s:Bt) (H:Heap):ACall PP 7 [.str s] H (Just H (.tuple [encR (rpR s).1,.int .i64 (rpR s).2])):=by
 have hf:ACall PP 7 [.str s] H (fun r H'=>∃ v,r=.ret v∧v=.tuple [encR (rpR s).1,.int .i64 (rpR s).2]∧H'=H):=by
  refine ACall.forgetE (fun v h=>?_) ?_
  ·subst h
   refine Plain.tuple fun x hx=>?_
   simp only [List.mem_cons,List.not_mem_nil,or_false] at hx
   rcases hx with rfl | rfl
   ·exact plain_R _
   ·exact Plain.int _ _
  refine is7.c1 z0V mixed rfl ?_
  rw [List.append_nil]
  have hlj:∀ (j:Nat) (b:Blk),H[j]? =some b→j<H.length:=fun j b h=>(List.getElem?_eq_some_iff.1 h).1
  have g0:(H++[Blk.cells Z4])[H.length]? =some (.cells Z4):=z0K
  have go:∀ (j:Nat) (b:Blk),H[j]? =some b→(H++[Blk.cells Z4])[j]? =some b:=fun j b h=>z0F h
  have gl:(H++[Blk.cells Z4]:Heap).length=H.length+1:=by simp
  have hX:∀ (h:decide ((s.length:Int)>6000)=false),rpR s=match wholeR (spl s) with
   | none=>(Ru0,2)
   | some (r,bad,lg)=>if lg||r.pairs.any longW then (Ru0,3) else
    if (if vrule2 r != 3&&bad != 0 then bad else vrule2 r) != 0 then (Ru0,if vrule2 r != 3&&bad != 0 then bad else vrule2 r) else (r,0):=fun h=>by unfold rpR;rw [h];rfl
  have fin:∀ {K:Heap} {al:AL} {k:Int},look al 2=.ptr H.length 0→look al 3=.int .i64 k→K[H.length]? =some (.cells Z4)→(∀ (j:Nat) (b:Blk),H[j]? =some b→K[j]? =some b)→rpR s=(Ru0,k) →
    fpostL ic7.rs (fun r H'=>∃ v,r=.ret v∧v=.tuple [encR (rpR s).1,.int .i64 (rpR s).2]∧∃ G,H'=H++G) .ret al K:=by
   intro K al k h2 h3 hg ho hr
   refine z1G (res7 h2 h3 hg rfl) ⟨_,rfl,?_,ext_old ho⟩
   rw [hr];rfl
  refine z0B ?_
  cases hlen:decide ((s.length:Int)>6000)
  rotate_left
  ·have hr:rpR s=(Ru0,3):=by unfold rpR;rw [hlen];rfl
   refine z0B ?_
   refine z0L (out:=Z4) rfl rfl ?_
   refine z0Z (k:=4) (ws:=Z4) rfl rfl g0 rfl rfl rfl ?_
   refine z0B ?_
   exact fin rfl rfl (z0C g0) (fun j b h=>z0A (go j b h) (by have:=hlj j b h;omega)) hr
  replace hX:=hX hlen
  have hs:s.length≤6000:=by simp at hlen;omega
  have hls:∀ y∈spl s,y.length≤6000:=fun y hy=>Nat.le_trans (z5G hy) hs
  have hsl:=spl_le s
  have hsj:=z3K s
  generalize (H++[Blk.cells Z4]:Heap)=X at *
  refine z0B ?_
  refine z0G rfl (c21 s (by omega) X) ?_
  generalize spl s=l at *
  refine z0L (out:=[.list 1 (l.map .str),.int .i64 (0:Nat),.int .i64 0,.bool false]) rfl rfl ?_
  refine st_boxG (v:=.agg [.list 1 (l.map .str),.int .i64 (0:Nat),.int .i64 0,.bool false]) rfl rfl ?_
  have k0:=z0F (G:=[RF l 0 0 false]) g0
  have ko:∀ (j:Nat) (b:Blk),H[j]? =some b→(X++[RF l 0 0 false])[j]? =some b:=fun j b h=>z0F (go j b h)
  have kr:(X++[RF l 0 0 false])[X.length]? =some (RF l 0 0 false):=z0K
  rw [gl] at kr ⊢
  show VV _ _ _ (X++[RF l 0 0 false]) _ _
  generalize (X++[RF l 0 0 false]:Heap)=Y at *
  clear g0 go gl X
  refine z0B ?_
  refine z1H rfl (c22 kr (by omega) hls (fun q=>Nat.le_trans (hsj q) hs)) ?_ ?_
  rotate_left
  ·rintro v H' (⟨v',hv,_⟩ | ⟨v',hv,h⟩)
   ·cases hv
   ·exact h.elim
  rintro v V (⟨v',hv,hold,hm⟩ | ⟨v',hv,h⟩)
  rotate_left
  ·cases hv
  cases hv
  have v0:=hold _ _ (by omega) k0
  have vo:∀ (j:Nat) (b:Blk),H[j]? =some b→V[j]? =some b:=fun j b h=>hold _ _ (by have:=hlj j b h;omega) (ko j b h)
  clear hold k0 ko kr Y
  cases hru:wholeR l with
  | none =>
   rw [hru] at hm hX
   simp only at hm hX
   obtain ⟨a,b,c,d,rfl,hsc⟩:=hm
   refine z0B ?_
   refine z0T rfl rfl rfl rfl rfl hsc ?_
   have v0:=z0F (G:=[Blk.cells [a,b,c,d]]) v0
   have vo:∀ (j:Nat) (b':Blk),H[j]? =some b'→(V++[Blk.cells [a,b,c,d]])[j]? =some b':=fun j b' h=>z0F (vo j b' h)
   generalize (V++[Blk.cells [a,b,c,d]]:Heap)=W at *
   refine z0B ?_
   refine z0L (out:=Z4) rfl rfl ?_
   refine z0Z (k:=4) (ws:=Z4) rfl rfl v0 rfl rfl rfl ?_
   refine z0B ?_
   exact fin rfl rfl (z0C v0) (fun j b h=>z0A (vo j b h) (by have:=hlj j b h;omega)) hX
  | some x =>
   obtain ⟨r,bad,lg⟩:=x
   rw [hru] at hm hX
   simp only at hm hX
   obtain ⟨rfl,q,hq⟩:=hm
   have hok:=wholeR_ok hls (by omega) hru
   have k16:=fun H=>c16 r hok H
   have hrE:encR r=.agg [.int .i64 r.kind,encPs r.pn r.pairs,encLs r.ln r.places,.bool r.below]:=rfl
   have hsc:([.int .i64 r.kind,encPs r.pn r.pairs,encLs r.ln r.places,.bool r.below]:List AV).all AV.scalar=true:=by
    have h1:AV.scalar (encPs r.pn r.pairs)=true:=by unfold encPs;split<;>rfl
    simp only [List.all_cons,h1,scalar_Ls,List.all_nil];rfl
   generalize vrule2 r=ve at *
   obtain ⟨kind,pn,prs,ln,pls,below⟩:=r
   simp only at hX hrE hsc
   have hnp:=hok.np
   simp only at hnp
   have hsp:=sl_Ps pn prs
   have hlp:(prs.map encP).length=prs.length:=List.length_map _
   rw [hrE] at k16 ⊢
   refine z0B ?_
   refine z0T rfl rfl rfl rfl rfl hsc ?_
   have h5:(V++[Blk.cells [.int .i64 kind,encPs pn prs,encLs ln pls,.bool below]])[V.length]? =some (.cells [.int .i64 kind,encPs pn prs,encLs ln pls,.bool below]):=z0K
   have v0:=z0F (G:=[Blk.cells [.int .i64 kind,encPs pn prs,encLs ln pls,.bool below]]) v0
   have hq:=z0F (G:=[Blk.cells [.int .i64 kind,encPs pn prs,encLs ln pls,.bool below]]) hq
   have vo:∀ (j:Nat) (b':Blk),H[j]? =some b'→(V++[Blk.cells [.int .i64 kind,encPs pn prs,encLs ln pls,.bool below]])[j]? =some b':=fun j b' h=>z0F (vo j b' h)
   have hVl:=(List.getElem?_eq_some_iff.1 ‹V[H.length]? =some _›).1
   have hVl2:=(List.getElem?_eq_some_iff.1 ‹V[H.length+1]? =some _›).1
   generalize (V++[Blk.cells [.int .i64 kind,encPs pn prs,encLs ln pls,.bool below]]:Heap)=W at *
   generalize V.length=i5 at *
   refine z0B ?_
   refine wi_cutB (fun al' H'=>∃ tl,al'=(2,.ptr H.length 0)::(4,.ptr (H.length+1) 0)::(5,.ptr i5 0)::tl∧H'[H.length]? =some (.cells Z4)∧H'[H.length+1]? =some (RF l q bad (lg||prs.any longW)) ∧
    H'[i5]? =some (.cells [.int .i64 kind,encPs pn prs,encLs ln pls,.bool below])∧(∀ (j:Nat) (b:Blk),H[j]? =some b→H'[j]? =some b)) ?_ ?_
   ·refine z1F prs.length (fun i al H'=>al=[(2,.ptr H.length 0),(4,.ptr (H.length+1) 0),(5,.ptr i5 0),(7,.int .i64 i)]∧H'[H.length]? =some (.cells Z4)∧H'[H.length+1]? =some (RF l q bad (lg||(prs.take i).any longW)) ∧
     H'[i5]? =some (.cells [.int .i64 kind,encPs pn prs,encLs ln pls,.bool below])∧(∀ (j:Nat) (b:Blk),H[j]? =some b→H'[j]? =some b)) ⟨rfl,v0,by simpa using hq,h5,vo⟩ ?_
    clear v0 hq h5 vo W
    rintro i _ W hi ⟨rfl,w0,w1,w5,wo⟩
    have e1:decide ((i:Int)<((prs.map encP).length:Int))=decide (i<prs.length):=by rw [hlp];simp only [decide_eq_decide];omega
    refine z0B ?_
    rw [e1]
    cases hc:decide (i<prs.length)
    ·have hc:¬ i<prs.length:=by simpa using hc
     have:i=prs.length:=by omega
     subst this
     rw [List.take_length] at w1
     refine z0B ?_
     exact ⟨_,rfl,w0,w1,w5,wo⟩
    simp only [decide_eq_true_eq] at hc
    obtain ⟨c,hc⟩:=z1D (l:=prs) (i:=i) (by omega)
    have hu:(prs.map encP)[i]? =some (.agg [encW c.a,encW c.b]):=getmap (f:=encP) hc
    have ht:=z1P (p:=longW) hc
    have s1:=sl_W c.a
    have s2:=sl_W c.b
    have l1:∀ k:Int,decide (((c.a.l.map AV.str).length:Int)>k)=decide ((c.a.l.length:Int)>k):=fun k=>by rw [List.length_map]
    have l2:∀ k:Int,decide (((c.b.l.map AV.str).length:Int)>k)=decide ((c.b.l.length:Int)>k):=fun k=>by rw [List.length_map]
    have hend:∀ {X:Bool},X=(lg||(prs.take (i+1)).any longW)→(W.set (H.length+1) (RF l q bad X))[H.length]? =some (.cells Z4)∧(W.set (H.length+1) (RF l q bad X))[H.length+1]? =some (RF l q bad (lg||(prs.take (i+1)).any longW)) ∧
      (W.set (H.length+1) (RF l q bad X))[i5]? =some (.cells [.int .i64 kind,encPs pn prs,encLs ln pls,.bool below])∧(∀ (j:Nat) (b:Blk),H[j]? =some b→(W.set (H.length+1) (RF l q bad X))[j]? =some b):=by
     intro X hX'
     subst hX'
     exact ⟨z0A w0 (by omega),z0C w1,z0A w5 (by omega),fun j b h=>z0A (wo j b h) (by have:=hlj j b h;omega)⟩
    cases hb:(lg||(prs.take i).any longW)
    ·rw [hb] at w1
     refine z0B ?_
     rw [l1]
     cases h2:decide ((c.a.l.length:Int)>60)
     ·refine z0B ?_
      rw [l2]
      refine z0B ?_
      refine z0P (v:=.bool (decide ((c.b.l.length:Int)>60))) rfl rfl w1 rfl (by simp) ?_
      refine z0B ?_
      exact ⟨by omega,rfl,hend (by rw [ht,←Bool.or_assoc,hb];unfold longW;rw [h2];simp)⟩
     ·refine z0B ?_
      refine z0P (v:=.bool true) rfl rfl w1 rfl (by simp) ?_
      refine z0B ?_
      exact ⟨by omega,rfl,hend (by rw [ht,←Bool.or_assoc,hb];unfold longW;rw [h2];simp)⟩
    ·rw [hb] at w1
     refine z0B ?_
     refine z0P (v:=.bool true) rfl rfl w1 rfl (by simp) ?_
     refine z0B ?_
     exact ⟨by omega,rfl,hend (by rw [ht,←Bool.or_assoc,hb];rfl)⟩
   clear v0 hq h5 vo W
   rintro _ W ⟨tl,rfl,w0,w1,w5,wo⟩
   have fin':∀ {al:AL} {k:Int},look al 2=.ptr H.length 0→look al 3=.int .i64 k→rpR s=(Ru0,k)→fpostL ic7.rs (fun r H'=>∃ v,r=.ret v∧v=.tuple [encR (rpR s).1,.int .i64 (rpR s).2]∧∃ G,H'=H++G) .ret al (W.set H.length (.cells Z4)) :=
    fun h1 h2 h3=>fin h1 h2 (z0C w0) (fun j b h=>z0A (wo j b h) (by have:=hlj j b h;omega)) h3
   generalize (lg||prs.any longW)=long at *
   cases long
   rotate_left
   ·simp only [if_true] at hX
    refine z0B ?_
    refine z0L (out:=Z4) rfl rfl ?_
    refine z0Z (k:=4) (ws:=Z4) rfl rfl w0 rfl rfl rfl ?_
    refine z0B ?_
    exact fin' rfl rfl hX
   simp only [Bool.false_eq_true,if_false] at hX
   refine z0B ?_
   refine z0G rfl (k16 W) ?_
   refine z0B ?_
   refine z1Y [(2,.ptr H.length 0),(4,.ptr (H.length+1) 0),(5,.ptr i5 0),(8,.int .i64 ve),(74,.bool (ve != 3&&bad != 0))] W ?_ ?_
   ·cases b1:(ve != 3)
    ·refine z0B ?_
     exact z0S rfl rfl
    ·refine z0B ?_
     exact z0S rfl rfl
   refine wi_cut (fun al' H'=>∃ tl,(al'=(2,.ptr H.length 0)::(5,.ptr i5 0)::(8,.int .i64 (if ve != 3&&bad != 0 then bad else ve))::tl∨al'=(2,.ptr H.length 0)::(4,.ptr (H.length+1) 0)::(5,.ptr i5 0)::(8,.int .i64 (if ve != 3&&bad != 0 then bad else ve))::tl)∧H'=W) ?_ ?_
   ·cases hvb:(ve != 3&&bad != 0)
    ·simp only [Bool.false_eq_true,if_false]
     refine z0B ?_
     exact ⟨_,.inr rfl,rfl⟩
    ·simp only [if_true]
     refine z0B ?_
     exact ⟨_,.inl rfl,rfl⟩
   rintro al' _ ⟨tl,ha,rfl⟩
   generalize (if ve != 3&&bad != 0 then bad else ve)=ee at *
   rcases ha with rfl | rfl
   all_goals
    refine z0B ?_
    cases he:(ee != 0)
    ·rw [he] at hX
     simp only [Bool.false_eq_true,if_false] at hX
     refine z0B ?_
     refine z0Z (k:=4) (ws:=[.int .i64 kind,encPs pn prs,encLs ln pls,.bool below]) rfl rfl w0 rfl rfl hsc ?_
     refine z0B ?_
     refine z1G (res7 rfl rfl (z0C w0) rfl) ⟨_,rfl,?_,ext_old fun j b h=>z0A (wo j b h) (by have:=hlj j b h;omega)⟩
     rw [hX,←hrE];rfl
    ·rw [he] at hX
     simp only [if_true] at hX
     refine z0B ?_
     refine z0L (out:=Z4) rfl rfl ?_
     refine z0B ?_
     refine z0Z (k:=4) (ws:=Z4) rfl rfl w0 rfl rfl rfl ?_
     refine z0B ?_
     exact fin' rfl rfl hX
 exact hf.mono fun r H' h=>by
  obtain ⟨v,h1,h2,h3⟩:=h
  exact ⟨by rw [h1,h2],h3⟩
theorem ints_same (a:Int):(a != a)=false:=by simp
theorem strs_same (a:Bt):(a != a)=false:=by simp
theorem c23:∀ (e:Ex),okE e→∀ H,ACall PP 23 [enc e,enc e] H (Just H (.bool true))
 | .mk op s nl l,he,H=>by
  have ih:∀ x∈l,∀ H,ACall PP 23 [enc x,enc x] H (Just H (.bool true)):=fun x hx=>c23 x (by
   have:=ws_mem hx
   unfold okE at he ⊢
   simp only [Ex.w] at he;omega)
  have hl:l.length≤1000000000000:=by
   have:=Nat.le_trans (length_sizes l) (sizes_ws l)
   unfold okE at he
   simp only [Ex.w] at he;omega
  rw [z0X]
  refine ACall.gives (is23.c2 z0V mixed rfl ?_)
  have hs:=sl_lst nl l
  have hll:(l.map enc).length=l.length:=List.length_map _
  have f1:=ints_same op
  have f2:=strs_same s
  have f3:=ints_same ((l.map enc).length:Int)
  refine z0D ?_
  refine z1F l.length (fun i al H'=>al=[(2,.ptr (H.length+0) 0),(3,.ptr (H.length+1) 0),(5,.int .i64 i)]∧Ext H H'∧H'[H.length+0]? =some (.cells [.int .i64 op,.str s,lst nl l])∧H'[H.length+1]? =some (.cells [.int .i64 op,.str s,lst nl l])) ⟨rfl,⟨_,rfl⟩,hp_new,hp_new⟩ ?_
  rintro i _ V hi ⟨rfl,hx,h2,h3⟩
  have e1:decide ((i:Int)<((l.map enc).length:Int))=decide (i<l.length):=by rw [hll];simp only [decide_eq_decide];omega
  refine z0D ?_
  rw [e1]
  cases hc:decide (i<l.length)
  ·refine z0D ?_
   exact z1G rfl (z0N hx (Plain.bool _))
  ·simp only [decide_eq_true_eq] at hc
   obtain ⟨⟨op',s',nl',l'⟩,hc⟩:=z1D (l:=l) (i:=i) hc
   have hu:(l.map enc)[i]? =some (.agg [.int .i64 op',.str s',lst nl' l']):=by rw [List.getElem?_map,hc,Option.map_some,z0X]
   have k:=ih _ (List.mem_of_getElem? hc)
   rw [z0X] at k
   refine z0D ?_
   refine z0G rfl (k _) ?_
   refine z0D ?_
   exact ⟨by omega,rfl,hx,h2,h3⟩
termination_by e=>e.w
decreasing_by
 have:=ws_mem hx
 simp only [Ex.w];omega
theorem c8 (r:Ru) (hr:okR r) (H:Heap):ACall PP 8 [encR r,encR r] H (Just H (.bool true)):=by
 obtain ⟨kind,pn,prs,ln,pls,below⟩:=r
 obtain ⟨hnp,hnl,hps,hls⟩:=hr
 simp only at hnp hnl hps hls
 have hsp:=sl_Ps pn prs
 have hsl:=sl_Ls ln pls
 have hlp:(prs.map encP).length=prs.length:=List.length_map _
 have hll:(pls.map encPl).length=pls.length:=List.length_map _
 have f1:=ints_same kind
 have f2:(below != below)=false:=by simp
 have f3:=ints_same ((prs.map encP).length:Int)
 have f4:=ints_same ((pls.map encPl).length:Int)
 refine ACall.gives (is8.c2 z0V mixed rfl ?_)
 unfold encR
 simp only
 refine z0D ?_
 refine z2V (v:=.bool false) (by cases below<;>rfl) ?_
 refine z0D ?_
 refine wi_cutB (fun al' H'=>∃ tl,al'=(2,.ptr (H.length+0) 0)::(3,.ptr (H.length+1) 0)::tl∧Ext H H'∧H'[H.length+0]? =some (.cells [.int .i64 kind,encPs pn prs,encLs ln pls,.bool below])∧H'[H.length+1]? =some (.cells [.int .i64 kind,encPs pn prs,encLs ln pls,.bool below])) ?_ ?_
 ·refine z1F prs.length (fun i al H'=>al=[(2,.ptr (H.length+0) 0),(3,.ptr (H.length+1) 0),(5,.int .i64 i)]∧Ext H H'∧H'[H.length+0]? =some (.cells [.int .i64 kind,encPs pn prs,encLs ln pls,.bool below])∧H'[H.length+1]? =some (.cells [.int .i64 kind,encPs pn prs,encLs ln pls,.bool below])) ⟨rfl,⟨_,rfl⟩,hp_new,hp_new⟩ ?_
  rintro i _ V hi ⟨rfl,hx,h2,h3⟩
  have e1:decide ((i:Int)<((prs.map encP).length:Int))=decide (i<prs.length):=by rw [hlp];simp only [decide_eq_decide];omega
  refine z0D ?_
  rw [e1]
  cases hc:decide (i<prs.length)
  ·refine z0D ?_
   exact ⟨_,rfl,hx,h2,h3⟩
  ·simp only [decide_eq_true_eq] at hc
   obtain ⟨c,hc⟩:=z1D (l:=prs) (i:=i) hc
   have hok:=hps c (List.mem_of_getElem? hc)
   have hu:(prs.map encP)[i]? =some (.agg [encW c.a,encW c.b]):=getmap (f:=encP) hc
   have k1:=c17 (sl_W c.a) (sl_W c.a) hok.1.1
   have k2:=c17 (sl_W c.b) (sl_W c.b) hok.2.1
   rw [beq_self_eq_true] at k1 k2
   refine z0D ?_
   refine z0G rfl (k1 _) ?_
   refine z0D ?_
   refine z0G rfl (k2 _) ?_
   refine z0D ?_
   exact ⟨by omega,rfl,hx,h2,h3⟩
 rintro _ V ⟨tl,rfl,hx,h2,h3⟩
 refine z0D ?_
 refine z1F pls.length (fun i al H'=>al=[(2,.ptr (H.length+0) 0),(3,.ptr (H.length+1) 0),(6,.int .i64 i)]∧Ext H H'∧H'[H.length+0]? =some (.cells [.int .i64 kind,encPs pn prs,encLs ln pls,.bool below])∧H'[H.length+1]? =some (.cells [.int .i64 kind,encPs pn prs,encLs ln pls,.bool below])) ⟨rfl,hx,h2,h3⟩ ?_
 clear hx h2 h3 V
 rintro i _ V hi ⟨rfl,hx,h2,h3⟩
 have e1:decide ((i:Int)<((pls.map encPl).length:Int))=decide (i<pls.length):=by rw [hll];simp only [decide_eq_decide];omega
 refine z0D ?_
 rw [e1]
 cases hc:decide (i<pls.length)
 ·refine z0D ?_
  exact z1G rfl (z0N hx (Plain.bool _))
 ·simp only [decide_eq_true_eq] at hc
  obtain ⟨⟨⟨a,b,c,d⟩,⟨a',b',c',d'⟩⟩,hc⟩:=z1D (l:=pls) (i:=i) hc
  have hok:=hls _ (List.mem_of_getElem? hc)
  have hu:(pls.map encPl)[i]? =some (.agg [.int .i64 a,.str b,lst c d,.int .i64 a',.str b',lst c' d']):=getmap (f:=encPl) hc
  have k1:=c23 _ hok.1
  have k2:=c23 _ hok.2
  simp only at k1 k2
  rw [z0X] at k1 k2
  refine z0D ?_
  refine z0G rfl (k1 _) ?_
  refine z0D ?_
  refine z0G rfl (k2 _) ?_
  refine z0D ?_
  exact ⟨by omega,rfl,hx,h2,h3⟩
end Go.Ab
