/- Part 31 of the proof. -/
import Derived.Test.YtagcckioikbanaaGreatDoorM24
import Derived.Test.YtagcckioikbanaaGreatDoorM30
set_option linter.unusedVariables false
set_option linter.unusedSimpArgs false
namespace Go.Ab
open Go
set_option maxRecDepth 100000
theorem zDY {a b:List (List UInt8)} {i:Nat} {x y:List UInt8} (hl:a.length=b.length) (hx:a[i]? =some x) (hy:b[i]? =some y) :
  (a.take (i+1)==b.take (i+1))=((a.take i==b.take i)&&(x==y)):=by
 rw [lBA,lBA,hx,hy]
 have h1:=(lAA.1 hx).1
 have h2:=(lAA.1 hy).1
 apply lB6.2
 simp only [Option.toList,lCY,lAQ]
 constructor
 ·intro h
  have:=List.append_inj h (by simp;omega)
  exact ⟨this.1,by simpa using this.2⟩
 ·rintro ⟨e1,e2⟩;rw [e1,e2]
theorem c80 {v u:AV} {a b:List (List UInt8)} (hv:Sl 1 v (a.map .str)) (hu:Sl 1 u (b.map .str)) (ha:a.length≤1000000000000) (H:z0B):z0D PP 139 [v,u] H (z1A H (.bool (a==b))):=by
 have hl:(a.map AV.str).length=a.length:=lAE _
 have hl':(b.map AV.str).length=b.length:=lAE _
 refine z0D.gives (zUR.c2 z0R mixed rfl ?_)
 refine z0E ?_
 refine z0Q _ rfl ?_ ?_<;>intro hc
 ·have:(a==b)=false:=by
   simp only [bne_iff_ne,ne_eq] at hc
   rw [beq_eq_false_iff_ne];rintro rfl;exact hc rfl
  rw [this]
  refine z0E ?_
  exact fr
 ·have hlen:a.length=b.length:=by
   have:((a.map AV.str).length:Int)=(b.map AV.str).length:=by simpa using hc
   omega
  refine z0E ?_
  refine z0F a.length (fun i al H'=>al=[(0,v),(1,u),(12,.int .i64 (a.map AV.str).length),(13,.int .i64 i)]∧H'=H++[]∧(a.take i==b.take i)=true) ⟨rfl,rfl,by simp⟩ ?_
  rintro i _ _ hi ⟨rfl,rfl,hb⟩
  refine z0E ?_
  refine z0Q _ rfl ?_ ?_<;>intro hc
  ·simp only [lAD] at hc
   obtain ⟨x,hx⟩:=z0M (l:=a) (i:=i) (by omega)
   obtain ⟨y,hy⟩:=z0M (l:=b) (i:=i) (by omega)
   have hxu:=z0q (f:=AV.str) hx
   have hyu:=z0q (f:=AV.str) hy
   have hs:=zDY hlen hx hy
   refine z0E ?_
   refine z0Q _ rfl ?_ ?_<;>intro hq
   ·have:(a==b)=false:=by
     rw [beq_eq_false_iff_ne];rintro rfl
     rw [hx] at hy;injection hy with hy;subst hy
     simp at hq
    rw [this]
    refine z0E ?_
    exact fr
   ·refine z0E ?_
    refine ⟨by omega,rfl,rfl,?_⟩
    rw [hs,hb];simpa using hq
  ·simp only [lAC] at hc
   have:i=a.length:=by omega
   subst this
   rw [lAW,hlen,lAW] at hb
   rw [hb]
   refine z0E ?_
   exact fr
def z8x:List (List UInt8)→List (List UInt8)→Int
 | [],[]=>0
 | [],_::_=>-1
 | _::_,[]=>1
 | a::as_,b::bs=>if Op.bytesLess a b then -1 else if !(Op.bytesLess a b||a==b) then 1 else z8x as_ bs
theorem zGT (a:List UInt8):Op.bytesLess a a=false:=by
 induction a with
 | nil=>rfl
 | cons x xs ih=>simp [Op.bytesLess,ih]
theorem zBu:∀ a b:List (List UInt8),(z8x a b==0)=(a==b)
 | [],[]=>rfl
 | [],_::_=>rfl
 | _::_,[]=>rfl
 | a::as_,b::bs=>by
  simp only [z8x]
  cases h1:Op.bytesLess a b with
  | true =>
   have:(a::as_==b::bs)=false:=by
    rw [beq_eq_false_iff_ne];intro e;injection e with e1 e2;subst e1;rw [zGT] at h1;cases h1
   rw [this];rfl
  | false =>
   cases h2:(a==b) with
   | false =>
    have:(a::as_==b::bs)=false:=by
     rw [beq_eq_false_iff_ne];intro e;injection e with e1 e2;subst e1;simp at h2
    rw [this];rfl
   | true =>
    have:=eq_of_beq h2
    subst this
    simp only [Bool.or_true,lDL,lAV,if_false]
    rw [zBu as_ bs]
    apply lB6.2;simp
theorem z2Q {α:Type} {l:List α} {i:Nat} {x:α} (h:l[i]? =some x):l.drop i=x::l.drop (i+1):=by
 have hlt:=(lAA.1 h).1
 rw [lB3 hlt]
 rw [lAG hlt] at h
 injection h with h;rw [h]
theorem c45 {v u:AV} {a b:List (List UInt8)} (hv:Sl 1 v (a.map .str)) (hu:Sl 1 u (b.map .str)) (ha:a.length≤1000000000000) (H:z0B):z0D PP 171 [v,u] H (z1A H (.int .i64 (z8x a b))):=by
 have hl:(a.map AV.str).length=a.length:=lAE _
 have hl':(b.map AV.str).length=b.length:=lAE _
 have e1:∀ i:Nat,decide ((i:Int)<(a.map AV.str).length)=decide (i<a.length):=fun i=>by rw [hl];simp
 have e2:∀ i:Nat,decide ((i:Int)<(b.map AV.str).length)=decide (i<b.length):=fun i=>by rw [hl'];simp
 refine z0D.gives (zUB.c2 z0R mixed rfl ?_)
 refine z0E ?_
 refine z0F a.length (fun i al H'=>al=[(0,v),(1,u),(5,.int .i64 i)]∧H'=H++[]∧i≤b.length∧z8x a b=z8x (a.drop i) (b.drop i)) ⟨rfl,rfl,by omega,rfl⟩ ?_
 rintro i _ _ hi ⟨rfl,rfl,hi',hb⟩
 have fin:(¬ i<a.length∨¬ i<b.length)→z8x a b=if decide (((a.map AV.str).length:Int)<(b.map AV.str).length) then -1 else if decide (((a.map AV.str).length:Int)>(b.map AV.str).length) then 1 else 0:=by
  intro h
  rw [hb,hl,hl']
  by_cases h1:i<a.length
  ·have h2:b.length≤i:=by omega
   rw [lDR h2,lB3 h1,if_neg (by simp;omega),if_pos (by simp;omega)];rfl
  ·have h1:a.length≤i:=by omega
   rw [lDR h1]
   by_cases h2:i<b.length
   ·rw [lB3 h2,if_pos (by simp;omega)];rfl
   ·rw [lDR (by omega),if_neg (by simp;omega),if_neg (by simp;omega)];rfl
 refine z0E ?_
 rw [e1]
 cases h1:decide (i<a.length)
 ·simp only [lAC] at h1
  rw [fin (.inl h1)]
  refine z0E ?_
  cases h5:decide (((a.map AV.str).length:Int)<(b.map AV.str).length)
  ·refine z0E ?_
   cases h6:decide (((a.map AV.str).length:Int)>(b.map AV.str).length)
   ·refine z0E ?_
    exact fr
   ·refine z0E ?_
    exact fr
  ·refine z0E ?_
   exact fr
 ·simp only [lAD] at h1
  refine z0E ?_
  rw [e2]
  cases h2:decide (i<b.length)
  ·simp only [lAC] at h2
   rw [fin (.inr h2)]
   refine z0E ?_
   cases h5:decide (((a.map AV.str).length:Int)<(b.map AV.str).length)
   ·refine z0E ?_
    cases h6:decide (((a.map AV.str).length:Int)>(b.map AV.str).length)
    ·refine z0E ?_
     exact fr
    ·refine z0E ?_
     exact fr
   ·refine z0E ?_
    exact fr
  ·simp only [lAD] at h2
   obtain ⟨x,hx⟩:=z0M (l:=a) (i:=i) (by omega)
   obtain ⟨y,hy⟩:=z0M (l:=b) (i:=i) (by omega)
   have hxu:=z0q (f:=AV.str) hx
   have hyu:=z0q (f:=AV.str) hy
   rw [z2Q hx,z2Q hy] at hb
   simp only [z8x] at hb
   refine z0E ?_
   cases h3:Op.bytesLess x y
   ·rw [h3] at hb
    refine z0E ?_
    cases h4:(!(Op.bytesLess x y||x==y))
    ·rw [h3] at h4
     rw [h4] at hb
     refine z0E ?_
     exact ⟨by omega,rfl,rfl,by omega,hb⟩
    ·rw [h3] at h4
     rw [h4] at hb
     rw [hb]
     refine z0E ?_
     exact fr
   ·rw [h3] at hb
    rw [hb]
    refine z0E ?_
    exact fr
theorem c17 {v u:AV} {a b:List (List UInt8)} (hv:Sl 1 v (a.map .str)) (hu:Sl 1 u (b.map .str)) (ha:a.length≤1000000000000) (H:z0B):z0D PP 106 [v,u] H (z1A H (.bool (a==b))):=by
 refine z0D.gives (zUd.c2 z0R mixed rfl ?_)
 refine z0E ?_
 refine z0H rfl (c45 hv hu ha _) ?_
 refine z0E ?_
 rw [zBu]
 exact fr
theorem zJW {P:Program} {H:z0B} {al:AL} {K:KL} {Qp:AL→AV→z0B→Prop} {os:List IOper} {d:Nat} {x y:Arg} {sz i:Nat} {w:AV} {xs:List AV} (hx:evL al x=w) (hs:Sl sz w xs) (hy:evL al y=.int .i64 i) (hi:i≤xs.length)
  (h:∀ v',Sl sz v' (xs.take i)→VV P os ((d,v')::al) H K Qp):VV P (⟨some d,.i (.d (.sliceSl sz false true)),[x,y],none,none⟩::os) al H K Qp:=by
 cases hs with
 | nil =>
  have:i=0:=by simpa using hi
  subst this
  refine z2S (v:=.nilslice) ?_ (h _ (by simpa using Sl.nil))
  simp [z0u,hx,hy,z1W,z8G,z2f]
 | list =>
  refine z2S (v:=.list sz (xs.take i)) ?_ (h _ (.list _))
  simp only [z0u,hx,hy,z1W,z8G,if_true,z2f]
  rw [if_pos ⟨by omega,by omega⟩]
  simp
theorem z6h {P:Program} {H:z0B} {al:AL} {K:KL} {Qp:AL→AV→z0B→Prop} {os:List IOper} {d:Nat} {fn:Fn} {as_:List Arg} {vs:List AV} (ha:z0u al as_=vs)
  (h:VV P os ((d,.clo fn [] vs)::al) H K Qp):VV P (⟨some d,.i (.d (.mkFunc fn 0)),as_,none,none⟩::os) al H K Qp:=z2S (v:=.clo fn [] vs) (by rw [ha];rfl) h
structure Wd where
 nl:Bool
 l:List (List UInt8)
def z0X (w:Wd):AV:=if w.nl&&w.l.isEmpty then .nilslice else .list 1 (w.l.map .str)
theorem z7S (w:Wd):Sl 1 (z0X w) (w.l.map .str):=by
 obtain ⟨nl,l⟩:=w
 unfold z0X
 cases l with
 | nil=>cases nl<;>first | exact .nil | exact .list []
 | cons x xs=>simp only [List.isEmpty_cons,Bool.and_false,lAV,if_false];exact .list _
theorem zPB (w:Wd):AV.scalar (z0X w)=true:=by unfold z0X;split<;>rfl
structure Pr where
 a:Wd
 b:Wd
def z2W (p:Pr):AV:=.agg [z0X p.a,z0X p.b]
abbrev okP (p:Pr):Prop:=okW p.a.l∧okW p.b.l
theorem zNN {a b:Wd}:([z0X a,z0X b]:List AV).all AV.scalar=true:=by
 simp only [lB4,zPB,List.all_nil];rfl
theorem c140 {v:AV} {w:List Pr} (hv:Sl 2 v (w.map z2W)) (hw:w.length≤1000000000000) {g:FuncId} {fs cs:List AV} {p:Pr→Bool} (hg:hasBody PP g=true) {H:z0B}
  (hp:∀ s∈w,z0D PP g (fs++[z2W s]++cs) H (z1A H (.bool (p s)))) :
  z0D PP 192 [v,.clo (.func g) fs cs] H (z1A H (.int .i64 (zUh (w.findIdx? p)))):=by
 have hl:(w.map z2W).length=w.length:=lAE _
 refine z0D.gives (zTw.c2 z0R mixed rfl ?_)
 refine z0E ?_
 refine z0F w.length (fun i al H'=>al=[(0,v),(1,.clo (.func g) fs cs),(7,.int .i64 (w.map z2W).length),(8,.int .i64 i)]∧H'=H++[]∧∀ k c,k<i→w[k]? =some c→p c=false) ⟨rfl,rfl,by omega⟩ ?_
 rintro i _ _ hi ⟨rfl,rfl,hb⟩
 refine z0E ?_
 refine z0Q _ rfl ?_ ?_<;>intro hc
 ·simp only [lAD] at hc
  obtain ⟨c,hc⟩:=z0M (l:=w) (i:=i) (by omega)
  have hu:(w.map z2W)[i]? =some (.agg [z0X c.a,z0X c.b]):=z0q (f:=z2W) hc
  have hpc':=hp c (lAF hc)
  rw [←lAK H] at hpc'
  refine z0E ?_
  refine z7d rfl hg hpc' ?_
  refine z0E ?_
  refine z0Q _ rfl ?_ ?_<;>intro hpc
  ·have:w.findIdx? p=some i:=by
    rw [lCU]
    refine ⟨by omega,?_,?_⟩
    ·rw [lAG (by omega)] at hc;injection hc with hc;rw [hc];exact hpc
    ·intro j hj;rw [hb j _ hj (lAG (by omega))];simp
   rw [this]
   refine z0E ?_
   exact fr
  ·refine z0E ?_
   refine ⟨by omega,rfl,rfl,?_⟩
   intro k d hk hd
   rcases lC1.1 hk with h | h
   ·exact hb k d h hd
   ·subst h;rw [hc] at hd;injection hd with hd;rw [←hd];exact hpc
 ·simp only [lAC] at hc
  have:w.findIdx? p=none:=by
   rw [lDE]
   intro x hx
   obtain ⟨k,hk,rfl⟩:=lC6 hx
   exact hb k _ (by omega) (lAG hk)
  rw [this]
  refine z0E ?_
  exact fr
theorem c81 {v:AV} {w:List Pr} (hv:Sl 2 v (w.map z2W)) (hw:w.length≤1000000000000) {g:FuncId} {fs cs:List AV} {p:Pr→Bool} (hg:hasBody PP g=true) {H:z0B}
  (hp:∀ s∈w,z0D PP g (fs++[z2W s]++cs) H (z1A H (.bool (p s)))) :
  z0D PP 140 [v,.clo (.func g) fs cs] H (z1A H (.bool (w.any p))):=by
 refine z0D.gives (zUQ.c2 z0R mixed rfl ?_)
 rw [←lAK H] at hp
 refine z0E ?_
 refine z0H rfl (c140 hv hw hg hp) ?_
 refine z0E ?_
 rw [zDL]
 exact fr
def z6y (p q:Pr):Bool:=(p.a.l==q.a.l)&&(p.b.l==q.b.l)
theorem c79 {p q:Pr} (hp:okP p) {id:Nat} {H:z0B} (hb:H[id]? =some (.cells [z0X p.a,z0X p.b])):z0D PP 138 [z2W q,.ptr id 0] H (z1A H (.bool (z6y p q))):=by
 have h1:=fun H=>c80 (z7S p.a) (z7S q.a) hp.1.1 H
 have h2:=fun H=>c80 (z7S p.b) (z7S q.b) hp.2.1 H
 refine z0D.gives (zRr.c2 z0R mixed rfl ?_)
 unfold z2W
 refine z0E ?_
 refine z0H rfl (h1 _) ?_
 refine z0E ?_
 cases h3:(p.a.l==q.a.l)
 ·rw [show z6y p q=false by simp only [z6y,h3];rfl]
  refine z0E ?_
  exact fr
 ·rw [show z6y p q=(p.b.l==q.b.l) by simp only [z6y,h3,lCT]]
  refine z0E ?_
  refine z0H rfl (h2 _) ?_
  refine z0E ?_
  exact fr
def z4J (l:List Pr) (i:Nat):Bool :=
 match l[i]? with
 | none=>false
 | some p=>(p.a.l==[])||(l.take i).any (z6y p)
def z6c (l:List Pr):Bool:=(List.range l.length).any (z4J l)
theorem c40 {v:AV} {w:List Pr} (hv:Sl 2 v (w.map z2W)) (hw:w.length≤1000000000000) (hok:∀ p∈w,okP p) (H:z0B):z0D PP 75 [v] H (z1A H (.bool (z6c w))):=by
 have hl:(w.map z2W).length=w.length:=lAE _
 refine z0D.gives (is75.c1 z0R mixed rfl ?_)
 refine z0E ?_
 refine z0F w.length (fun i al H'=>al=[(0,v),(6,v),(7,.int .i64 (w.map z2W).length),(8,.int .i64 i)]∧Ext H H'∧∀ k,k<i→z4J w k=false) ⟨rfl,⟨_,rfl⟩,by omega⟩ ?_
 rintro i _ H1 hi ⟨rfl,hx,hb⟩
 refine z6g ?_
 refine z0E ?_
 refine z0Q _ rfl ?_ ?_<;>intro hc
 ·simp only [lAD] at hc
  obtain ⟨c,hc⟩:=z0M (l:=w) (i:=i) (by omega)
  have hm:=lAF hc
  have hu:(w.map z2W)[i]? =some (.agg [z0X c.a,z0X c.b]):=z0q (f:=z2W) hc
  have ht:z4J w i=((c.a.l==[])||(w.take i).any (z6y c)):=by simp only [z4J,hc]
  have htw:z4J w i=true→z6c w=true:=fun h=>lA3.2 ⟨i,lAZ.2 (by omega),h⟩
  have e0:(((c.a.l.map AV.str).length:Int)==0)=(c.a.l==[]):=by
   cases c.a.l<;>simp
   omega
  have hsW:=z7S c.a
  refine z0E ?_
  refine z1k (n:=0) (ws:=[z0X c.a,z0X c.b]) rfl rfl rfl rfl rfl zNN rfl ?_
  refine z0E ?_
  refine z6h (vs:=[.ptr (H1.length+0) 0]) rfl ?_
  refine z0E ?_
  rw [e0]
  cases h1:(c.a.l==[])
  ·refine z0E ?_
   refine zJW rfl hv rfl (by omega) ?_
   intro v' hv'
   refine z0E ?_
   have hv'':Sl 2 v' ((w.take i).map z2W):=by rw [lDZ];exact hv'
   have hcl:∀ q∈w.take i,z0D PP 138 ([]++[z2W q]++[.ptr (H1.length+0) 0]) (H1++[.cells [z0X c.a,z0X c.b]]) (z1A (H1++[.cells [z0X c.a,z0X c.b]]) (.bool (z6y c q))) :=
    fun q hq=>c79 (hok c hm) z1R
   refine z0H rfl (c81 hv'' (by simp;omega) zRr.hasBody hcl) ?_
   refine z0E ?_
   refine z0Q _ rfl ?_ ?_<;>intro h2
   ·rw [htw (by rw [ht,h1,h2];rfl)]
    refine z0E ?_
    exact z0Y rfl (z0W (hx.app _) (z0N.bool _))
   ·refine z0E ?_
    refine ⟨by omega,rfl,hx.app _,?_⟩
    intro k hk
    rcases lC1.1 hk with h | h
    ·exact hb k h
    ·subst h;rw [ht,h1,h2];rfl
  ·rw [htw (by rw [ht,h1];rfl)]
   refine z0E ?_
   exact z0Y rfl (z0W (hx.app _) (z0N.bool _))
 ·simp only [lAC] at hc
  have:z6c w=false:=by
   rw [z6c,lBV];intro k hk;rw [hb k (by have:=lAZ.1 hk;omega)];simp
  rw [this]
  refine z0E ?_
  exact z0Y rfl (z0W (hx.app _) (z0N.bool _))
set_option maxHeartbeats 8000000
def sel3 (S0 S1 S2:AL→z0B→Prop):Nat→AL→z0B→Prop
 | 0=>S0
 | 1=>S1
 | 2=>S2
 | _+3=>fun _ _=>False
theorem z9r {K K':AL→z0B→Prop} {Q:PL} (hk:∀ al H,K al H→K' al H):∀ x al H,LX.then K Q x al H→LX.then K' Q x al H:=by
 intro x al H q
 cases x with
 | normal=>exact hk _ _ q
 | _=>exact q
theorem z6T {P:Program} {H:z0B} {al:AL} {Q:PL} {c:IC} {keep:List Nat} (S0 S1 S2:AL→z0B→Prop) (h:S0 (z1d al keep) H)
  (h0:∀ al H,S0 al H→WI P c (LX.then (fun al' H'=>S1 (z1d al' keep) H') Q) al H)
  (h1:∀ al H,S1 al H→WI P c (LX.then (fun al' H'=>S2 (z1d al' keep) H') Q) al H)
  (h2:∀ al H,S2 al H→WI P c (LX.then (fun _ _=>False) Q) al H):WI P (.loop (some keep) c) Q al H:=by
 refine z0F 3 (sel3 S0 S1 S2) h ?_
 intro i al H hi hS
 match i,hi,hS with
 | 0,hi,hS=>exact (h0 al H hS).mono (z9r fun al H q=>⟨by omega,q⟩)
 | 1,hi,hS=>exact (h1 al H hS).mono (z9r fun al H q=>⟨by omega,q⟩)
 | 2,hi,hS=>exact (h2 al H hS).mono (z9r fun al H q=>q.elim)
 | i+3,hi,hS=>exact hS.elim
abbrev Pl:=Ex × Ex
def z0x (p:Pl):AV:=match p with
 | (.mk a b c d,.mk a' b' c' d')=>.agg [.int .i64 a,.str b,lst c d,.int .i64 a',.str b',lst c' d']
structure Ru where
 kind:Int
 pn:Bool
 pairs:List Pr
 ln:Bool
 places:List Pl
 below:Bool
def z0T (nl:Bool) (l:List Pr):AV:=if nl&&l.isEmpty then .nilslice else .list 2 (l.map z2W)
def z0U (nl:Bool) (l:List Pl):AV:=if nl&&l.isEmpty then .nilslice else .list 6 (l.map z0x)
theorem zEB (nl:Bool) (l:List Pr):Sl 2 (z0T nl l) (l.map z2W):=by
 unfold z0T
 cases l with
 | nil=>cases nl<;>first | exact .nil | exact .list []
 | cons x xs=>simp only [List.isEmpty_cons,Bool.and_false,lAV,if_false];exact .list _
theorem zGB (nl:Bool) (l:List Pl):Sl 6 (z0U nl l) (l.map z0x):=by
 unfold z0U
 cases l with
 | nil=>cases nl<;>first | exact .nil | exact .list []
 | cons x xs=>simp only [List.isEmpty_cons,Bool.and_false,lAV,if_false];exact .list _
theorem z2E (nl:Bool) (l:List Pr):AV.scalar (z0T nl l)=true:=by unfold z0T;split<;>rfl
theorem z2F (nl:Bool) (l:List Pl):AV.scalar (z0U nl l)=true:=by unfold z0U;split<;>rfl
def z6e (r:Ru):AV:=.agg [.int .i64 r.kind,z0T r.pn r.pairs,z0U r.ln r.places,.bool r.below]
structure okR (r:Ru):Prop where
 np:r.pairs.length≤1000000000000
 nl:r.places.length≤1000000000000
 ps:∀ p∈r.pairs,okP p
 ls:∀ p∈r.places,okE p.1∧okE p.2
def z5t (p:Pr):Bool:=decide ((p.a.l.length:Int)>6)||decide ((p.b.l.length:Int)>60)
def zCy:List Pr→Int
 | []=>0
 | p::ps=>if z1N p.a.l != 0 then z1N p.a.l else if z1N p.b.l != 0 then z1N p.b.l else zCy ps
def zDg (v:Ex→Int):List Pl→Int
 | []=>0
 | p::ps=>if v p.1 != 0 then v p.1 else if v p.2 != 0 then v p.2 else zDg v ps
def zBP (r:Ru):Bool:=decide (r.kind<0)||decide (r.kind>3)||((r.pairs.length:Int)==0)||(r.below&&decide (r.kind<2))||z6c r.pairs
def z7D (p:Pl):Bool:=p.1.odd||p.2.odd
def z8Q (r:Ru):Int :=
 if decide ((r.pairs.length:Int)>24)||decide ((r.places.length:Int)>24) then 3 else if r.pairs.any z5t then 3 else
 if zCy r.pairs != 0 then zCy r.pairs else if zDg z5U r.places != 0 then zDg z5U r.places else if zBP r then 1 else if r.places.any z7D then 1 else 0
theorem zJK {a a':Int} {b b':List UInt8} {c c':Bool} {d d':List Ex}:([.int .i64 a,.str b,lst c d,.int .i64 a',.str b',lst c' d']:List AV).all AV.scalar=true:=by
 simp only [lB4,zBs,List.all_nil];rfl
theorem zMd {a b:Wd}:z5M (if 2*1=0 then [] else z1J 2 [.nilslice]) [(0,1),(1,1)] [z0X a,z0X b]=some [z0X a,z0X b]:=by
 unfold z0X
 generalize (a.nl&&a.l.isEmpty)=p
 generalize (b.nl&&b.l.isEmpty)=q
 cases p<;>cases q<;>rfl
theorem c15 (r:Ru) (hr:okR r) (H:z0B):z0D PP 35 [z6e r] H (z1A H (.int .i64 (z8Q r))):=by
 obtain ⟨kind,pn,pairs,ln,places,below⟩:=r
 obtain ⟨hnp,hnl,hps,hls⟩:=hr
 simp only at hnp hnl hps hls
 have hsp:=zEB pn pairs
 have hsl:=zGB ln places
 have hlp:(pairs.map z2W).length=pairs.length:=lAE _
 have hll:(places.map z0x).length=places.length:=lAE _
 have e1:∀ k:Int,decide (((pairs.map z2W).length:Int)>k)=decide ((pairs.length:Int)>k):=fun k=>by rw [hlp]
 have e2:∀ k:Int,decide (((places.map z0x).length:Int)>k)=decide ((places.length:Int)>k):=fun k=>by rw [hll]
 have e3:(((pairs.map z2W).length:Int)==0)=((pairs.length:Int)==0):=by rw [hlp]
 have hv:z8Q ⟨kind,pn,pairs,ln,places,below⟩=if decide ((pairs.length:Int)>24)||decide ((places.length:Int)>24) then 3 else if pairs.any z5t then 3 else
   if zCy pairs != 0 then zCy pairs else if zDg z5U places != 0 then zDg z5U places else if zBP ⟨kind,pn,pairs,ln,places,below⟩ then 1 else if places.any z7D then 1 else 0:=rfl
 refine z0D.gives (is35.c1 z0R mixed rfl ?_)
 unfold z6e
 rw [hv]
 refine z0E ?_
 rw [e1]
 refine zGy [(1,.ptr (H.length+0) 0),(26,.bool (decide ((pairs.length:Int)>24)||decide ((places.length:Int)>24)))] (H++[.cells [.int .i64 kind,z0T pn pairs,z0U ln places,.bool below]]) ?_ ?_
 ·cases h1:decide ((pairs.length:Int)>24)
  ·refine z0E ?_
   rw [e2]
   refine z0E ?_
   exact z4V rfl rfl
  ·refine z0E ?_
   exact z4V rfl rfl
 refine zHb ?_
 refine z0Q _ rfl ?_ ?_<;>intro h1
 ·rw [h1]
  refine z0E ?_
  exact fr
 rw [h1]
 refine z0E ?_
 refine z0F pairs.length (fun i al H'=>al=[(1,.ptr (H.length+0) 0),(28,z0T pn pairs),(29,.int .i64 (pairs.map z2W).length),(30,.int .i64 i)]∧Ext H H' ∧
  H'[H.length+0]? =some (.cells [.int .i64 kind,z0T pn pairs,z0U ln places,.bool below])∧(pairs.take i).any z5t=false) ⟨rfl,⟨_,rfl⟩,z1R,by simp⟩ ?_
 rintro i _ H1 hi ⟨rfl,hx,hb,ha⟩
 refine z6g ?_
 refine z0E ?_
 refine z0Q _ rfl ?_ ?_<;>intro hc
 ·simp only [lAD] at hc
  obtain ⟨c,hc⟩:=z0M (l:=pairs) (i:=i) (by omega)
  have hu:(pairs.map z2W)[i]? =some (.agg [z0X c.a,z0X c.b]):=z0q (f:=z2W) hc
  have ht:=z0r (p:=z5t) hc
  have hany:=z2R (p:=z5t) hc
  have s1:=z7S c.a
  have s2:=z7S c.b
  have l1:∀ k:Int,decide (((c.a.l.map AV.str).length:Int)>k)=decide ((c.a.l.length:Int)>k):=fun k=>by rw [lAE]
  have l2:∀ k:Int,decide (((c.b.l.map AV.str).length:Int)>k)=decide ((c.b.l.length:Int)>k):=fun k=>by rw [lAE]
  refine z0E ?_
  refine z1k (n:=0) (ws:=[z0X c.a,z0X c.b]) rfl rfl rfl rfl rfl zNN rfl ?_
  refine z0E ?_
  rw [l1]
  cases h2:decide ((c.a.l.length:Int)>6)
  ·refine z0E ?_
   rw [l2]
   cases h3:decide ((c.b.l.length:Int)>60)
   ·refine z0E ?_
    exact ⟨by omega,rfl,hx.app _,z0G hb,by rw [ht,ha];simp only [z5t,h2,h3];rfl⟩
   ·rw [hany (by simp only [z5t,h2,h3];rfl)]
    refine z0E ?_
    exact z0Y rfl (z0W (hx.app _) (z0N.int _ _))
  ·rw [hany (by simp only [z5t,h2];rfl)]
   refine z0E ?_
   exact z0Y rfl (z0W (hx.app _) (z0N.int _ _))
 simp only [lAC] at hc
 have:i=pairs.length:=by omega
 subst this
 rw [lAW] at ha
 rw [ha]
 clear hc hi
 refine z0E ?_
 refine z0F pairs.length (fun i al H'=>al=[(1,.ptr (H.length+0) 0),(46,z0T pn pairs),(47,.int .i64 (pairs.map z2W).length),(48,.int .i64 i)]∧Ext H H' ∧
  H'[H.length+0]? =some (.cells [.int .i64 kind,z0T pn pairs,z0U ln places,.bool below])∧zCy pairs=zCy (pairs.drop i)) ⟨rfl,hx.app _,z0G hb,rfl⟩ ?_
 clear hx hb ha H1
 rintro i _ H1 hi ⟨rfl,hx,hb,ha⟩
 refine z6g ?_
 refine z0E ?_
 refine z0Q _ rfl ?_ ?_<;>intro hc
 ·simp only [lAD] at hc
  obtain ⟨c,hc⟩:=z0M (l:=pairs) (i:=i) (by omega)
  have hu:(pairs.map z2W)[i]? =some (.agg [z0X c.a,z0X c.b]):=z0q (f:=z2W) hc
  have hok:=hps c (lAF hc)
  rw [z2Q hc] at ha
  simp only [zCy] at ha
  have k1:=fun H=>c38 (z7S c.a) hok.1 H
  have k2:=fun H=>c38 (z7S c.b) hok.2 H
  refine z0E ?_
  refine z1k (n:=0) (ws:=[z0X c.a,z0X c.b]) rfl rfl rfl rfl rfl zNN rfl ?_
  refine z0E ?_
  refine z7Y (out:=[z0X c.a,z0X c.b]) zMd rfl rfl ?_
  refine z0E ?_
  have fin:∀ b,z1N c.b.l=b→z1N c.a.l=0→b≠0→zCy pairs=b:=by
   intro b h1 h2 h3;rw [ha,h2,h1,if_neg (by simp),if_pos (by simpa using h3)]
  refine z6T (fun al H'=>al=[(1,.ptr (H.length+0) 0),(46,z0T pn pairs),(47,.int .i64 (pairs.map z2W).length),(48,.int .i64 i),(56,.sl (H1.length+1) 0 2 1),(57,.int .i64 (2:Nat)),(58,.int .i64 (0:Nat))]∧H'=H1++[.cells [z0X c.a,z0X c.b],.cells [z0X c.a,z0X c.b]])
   (fun al H'=>al=[(1,.ptr (H.length+0) 0),(46,z0T pn pairs),(47,.int .i64 (pairs.map z2W).length),(48,.int .i64 i),(56,.sl (H1.length+1) 0 2 1),(57,.int .i64 (2:Nat)),(58,.int .i64 (1:Nat))]∧H'=H1++[.cells [z0X c.a,z0X c.b],.cells [z0X c.a,z0X c.b]]∧z1N c.a.l=0)
   (fun al H'=>al=[(1,.ptr (H.length+0) 0),(46,z0T pn pairs),(47,.int .i64 (pairs.map z2W).length),(48,.int .i64 i),(56,.sl (H1.length+1) 0 2 1),(57,.int .i64 (2:Nat)),(58,.int .i64 (2:Nat))]∧H'=H1++[.cells [z0X c.a,z0X c.b],.cells [z0X c.a,z0X c.b]]∧z1N c.a.l=0∧z1N c.b.l=0)
   ⟨rfl,rfl⟩ ?_ ?_ ?_
  ·rintro _ _ ⟨rfl,rfl⟩
   refine z0E ?_
   refine z0H rfl (k1 _) ?_
   refine z0E ?_
   refine z0Q _ rfl ?_ ?_<;>intro h1
   ·rw [ha,if_pos h1,if_pos h1]
    refine z0E ?_
    exact z0Y rfl (z0W (hx.app _) (z0N.int _ _))
   ·refine z0E ?_
    exact ⟨rfl,rfl,by simpa using h1⟩
  ·rintro _ _ ⟨rfl,rfl,h0⟩
   refine z0E ?_
   refine z0H rfl (k2 _) ?_
   refine z0E ?_
   refine z0Q _ rfl ?_ ?_<;>intro h1
   ·rw [fin _ rfl h0 (by simpa using h1),if_pos h1]
    refine z0E ?_
    exact z0Y rfl (z0W (hx.app _) (z0N.int _ _))
   ·refine z0E ?_
    exact ⟨rfl,rfl,h0,by simpa using h1⟩
  ·rintro _ _ ⟨rfl,rfl,h0,h1⟩
   refine z0E ?_
   exact ⟨by omega,rfl,hx.app _,z0G hb,by rw [ha,h0,h1];rfl⟩
 simp only [lAC] at hc
 have:i=pairs.length:=by omega
 subst this
 rw [lDQ] at ha
 rw [ha]
 clear hc hi
 refine z0E ?_
 refine z0F places.length (fun i al H'=>al=[(1,.ptr (H.length+0) 0),(70,z0U ln places),(71,.int .i64 (places.map z0x).length),(72,.int .i64 i)]∧Ext H H' ∧
  H'[H.length+0]? =some (.cells [.int .i64 kind,z0T pn pairs,z0U ln places,.bool below])∧zDg z5U places=zDg z5U (places.drop i)) ⟨rfl,hx.app _,z0G hb,rfl⟩ ?_
 clear hx hb ha H1
 rintro i _ H1 hi ⟨rfl,hx,hb,ha⟩
 refine z6g ?_
 refine z0E ?_
 refine z0Q _ rfl ?_ ?_<;>intro hc
 ·simp only [lAD] at hc
  obtain ⟨c,hc⟩:=z0M (l:=places) (i:=i) (by omega)
  obtain ⟨⟨o1,s1,n1,l1⟩,⟨o2,s2,n2,l2⟩⟩:=c
  have hu:(places.map z0x)[i]? =some (.agg [.int .i64 o1,.str s1,lst n1 l1,.int .i64 o2,.str s2,lst n2 l2]):=z0q (f:=z0x) hc
  have hok:=hls _ (lAF hc)
  rw [z2Q hc] at ha
  simp only [zDg] at ha
  have k1:=fun H=>c39 (.mk o1 s1 n1 l1) hok.1 H
  have k2:=fun H=>c39 (.mk o2 s2 n2 l2) hok.2 H
  simp only [z0a] at k1 k2
  generalize z5U (.mk o1 s1 n1 l1)=v1 at *
  generalize z5U (.mk o2 s2 n2 l2)=v2 at *
  refine z0E ?_
  refine z1k (n:=0) (ws:=[.int .i64 o1,.str s1,lst n1 l1,.int .i64 o2,.str s2,lst n2 l2]) rfl rfl rfl rfl rfl zJK rfl ?_
  refine z0E ?_
  refine z7Y (out:=[.int .i64 o1,.str s1,lst n1 l1,.int .i64 o2,.str s2,lst n2 l2]) rfl rfl rfl ?_
  refine z0E ?_
  refine z6T (fun al H'=>al=[(1,.ptr (H.length+0) 0),(70,z0U ln places),(71,.int .i64 (places.map z0x).length),(72,.int .i64 i),(80,.sl (H1.length+1) 0 2 3),(81,.int .i64 (2:Nat)),(82,.int .i64 (0:Nat))] ∧
    H'=H1++[.cells [.int .i64 o1,.str s1,lst n1 l1,.int .i64 o2,.str s2,lst n2 l2],.cells [.int .i64 o1,.str s1,lst n1 l1,.int .i64 o2,.str s2,lst n2 l2]])
   (fun al H'=>al=[(1,.ptr (H.length+0) 0),(70,z0U ln places),(71,.int .i64 (places.map z0x).length),(72,.int .i64 i),(80,.sl (H1.length+1) 0 2 3),(81,.int .i64 (2:Nat)),(82,.int .i64 (1:Nat))] ∧
    H'=H1++[.cells [.int .i64 o1,.str s1,lst n1 l1,.int .i64 o2,.str s2,lst n2 l2],.cells [.int .i64 o1,.str s1,lst n1 l1,.int .i64 o2,.str s2,lst n2 l2],.cells [.int .i64 o1,.str s1,lst n1 l1]]∧v1=0)
   (fun al H'=>al=[(1,.ptr (H.length+0) 0),(70,z0U ln places),(71,.int .i64 (places.map z0x).length),(72,.int .i64 i),(80,.sl (H1.length+1) 0 2 3),(81,.int .i64 (2:Nat)),(82,.int .i64 (2:Nat))] ∧
    (∃ G,H'=H1++G)∧v1=0∧v2=0) ⟨rfl,rfl⟩ ?_ ?_ ?_
  ·rintro _ _ ⟨rfl,rfl⟩
   refine z0E ?_
   refine z0H rfl (k1 _) ?_
   refine z0E ?_
   refine z0Q _ rfl ?_ ?_<;>intro h1
   ·rw [ha,if_pos h1,if_pos h1]
    refine z0E ?_
    exact z0Y rfl (z0W (hx.app _) (z0N.int _ _))
   ·refine z0E ?_
    exact ⟨rfl,rfl,by simpa using h1⟩
  ·rintro _ _ ⟨rfl,rfl,h0⟩
   refine z0E ?_
   refine z0H rfl (k2 _) ?_
   refine z0E ?_
   refine z0Q _ rfl ?_ ?_<;>intro h1
   ·rw [ha,h0,if_neg (by simp),if_pos h1,if_pos h1]
    refine z0E ?_
    exact z0Y rfl (z0W (hx.app _) (z0N.int _ _))
   ·refine z0E ?_
    exact ⟨rfl,⟨_,rfl⟩,h0,by simpa using h1⟩
  ·rintro _ _ ⟨rfl,⟨G,rfl⟩,h0,h1⟩
   refine z0E ?_
   exact ⟨by omega,rfl,hx.app _,z0G hb,by rw [ha,h0,h1];rfl⟩
 simp only [lAC] at hc
 have:i=places.length:=by omega
 subst this
 rw [lDQ] at ha
 rw [ha]
 clear hc hi
 have hm:∀ b,zBP ⟨kind,pn,pairs,ln,places,below⟩=b→(decide (kind<0)||decide (kind>3)||((pairs.length:Int)==0)||(below&&decide (kind<2))||z6c pairs)=b:=fun b h=>h
 refine z0E ?_
 refine zFm [(1,.ptr (H.length+0) 0),(120,.bool (zBP ⟨kind,pn,pairs,ln,places,below⟩))] (fun h=>Ext H h∧h[H.length+0]? =some (.cells [.int .i64 kind,z0T pn pairs,z0U ln places,.bool below])) ?_ ?_
 ·have k40:=fun H=>c40 hsp hnp hps H
  have hf:∀ b,(decide (kind<0)||decide (kind>3)||((pairs.length:Int)==0)||(below&&decide (kind<2))||z6c pairs)=b→zBP ⟨kind,pn,pairs,ln,places,below⟩=b:=fun b h=>h
  have hfin:decide (kind<0)=false→decide (kind>3)=false→((pairs.length:Int)==0)=false→(below&&decide (kind<2))=false→zBP ⟨kind,pn,pairs,ln,places,below⟩=z6c pairs:=by
   intro a b c d;exact hf _ (by rw [a,b,c,d];simp)
  cases h2:decide (kind<0)
  ·refine z0E ?_
   cases h3:decide (kind>3)
   ·refine z0E ?_
    rw [e3]
    cases h4:((pairs.length:Int)==0)
    ·refine z0E ?_
     cases below
     ·rw [hfin h2 h3 h4 rfl]
      refine z0E ?_
      refine z0H rfl (k40 _) ?_
      refine z0E ?_
      exact z2D rfl ⟨hx.app _,z0G hb⟩
     ·refine z0E ?_
      cases h5:decide (kind<2)
      ·rw [hfin h2 h3 h4 h5]
       refine z0E ?_
       refine z0H rfl (k40 _) ?_
       refine z0E ?_
       exact z2D rfl ⟨hx.app _,z0G hb⟩
      ·rw [hf true (by rw [h5];simp)]
       refine z0E ?_
       exact z2D rfl ⟨hx.app _,z0G hb⟩
    ·rw [hf true (by rw [h4];simp)]
     refine z0E ?_
     exact z2D rfl ⟨hx.app _,z0G hb⟩
   ·rw [hf true (by rw [h3];simp)]
    refine z0E ?_
    exact z2D rfl ⟨hx.app _,z0G hb⟩
  ·rw [hf true (by rw [h2];rfl)]
   refine z0E ?_
   exact z2D rfl ⟨hx.app _,z0G hb⟩
 clear hx hb ha H1
 rintro H1 ⟨hx,hb⟩
 refine zHb ?_
 refine z0Q _ rfl ?_ ?_<;>intro hfo
 ·rw [hfo]
  refine z0E ?_
  exact z0Y rfl (z0W hx (z0N.int _ _))
 rw [hfo]
 refine z0E ?_
 refine z0F places.length (fun i al H'=>al=[(122,z0U ln places),(123,.int .i64 (places.map z0x).length),(124,.int .i64 i)]∧Ext H H'∧(places.take i).any z7D=false) ⟨rfl,hx,by simp⟩ ?_
 clear hx hb H1
 rintro i _ H1 hi ⟨rfl,hx,ha⟩
 refine z6g ?_
 refine z0E ?_
 refine z0Q _ rfl ?_ ?_<;>intro hc
 ·simp only [lAD] at hc
  obtain ⟨c,hc⟩:=z0M (l:=places) (i:=i) (by omega)
  have ht:=z0r (p:=z7D) hc
  have hany:=z2R (p:=z7D) hc
  have hok:=hls _ (lAF hc)
  have k1:=fun H=>c41 c.1 hok.1 H
  have k2:=fun H=>c41 c.2 hok.2 H
  have ho:z7D c=(c.1.odd||c.2.odd):=rfl
  generalize z7D c=q at *
  generalize c.1.odd=q1 at *
  generalize c.2.odd=q2 at *
  obtain ⟨⟨o1,s1,n1,l1⟩,⟨o2,s2,n2,l2⟩⟩:=c
  have hu:(places.map z0x)[i]? =some (.agg [.int .i64 o1,.str s1,lst n1 l1,.int .i64 o2,.str s2,lst n2 l2]):=z0q (f:=z0x) hc
  simp only [z0a] at k1 k2
  refine z0E ?_
  refine z1k (n:=0) (ws:=[.int .i64 o1,.str s1,lst n1 l1,.int .i64 o2,.str s2,lst n2 l2]) rfl rfl rfl rfl rfl zJK rfl ?_
  refine z0E ?_
  refine z0H rfl (k1 _) ?_
  refine z0E ?_
  cases q1
  ·refine z0E ?_
   refine z0H rfl (k2 _) ?_
   refine z0E ?_
   cases q2
   ·refine z0E ?_
    exact ⟨by omega,rfl,hx.app _,by rw [ht,ha,ho];rfl⟩
   ·rw [hany ho]
    refine z0E ?_
    exact z0Y rfl (z0W (hx.app _) (z0N.int _ _))
  ·rw [hany ho]
   refine z0E ?_
   exact z0Y rfl (z0W (hx.app _) (z0N.int _ _))
 simp only [lAC] at hc
 have:i=places.length:=by omega
 subst this
 rw [lAW] at ha
 rw [ha]
 refine z0E ?_
 exact z0Y rfl (z0W (hx.app _) (z0N.int _ _))
set_option maxHeartbeats 4000000
def z2c:Nat→List (List UInt8)→z3t
 | _,[]=>[]
 | n,k::ks=>(.str k,.bool true,n)::z2c (n+1) ks
def MB (ks:List (List UInt8)):Blk:=.map (z2c 0 ks) ks.length
def zNY (ks:List (List UInt8)) (s:List UInt8):List (List UInt8):=if s∈ks then ks else ks++[s]
def z0p (ks l:List (List UInt8)):List (List UInt8):=l.foldl zNY ks
theorem z9B:∀ (ks:List (List UInt8)) (n:Nat) (s:List UInt8),z2c n (ks++[s])=z2c n ks++[(.str s,.bool true,n+ks.length)]
 | [],n,s=>by simp [z2c]
 | k::ks,n,s=>by
  simp only [lB5,z2c,z9B ks,lBE]
  rw [show n+1+ks.length=n+(ks.length+1) by omega]
def zYC:KT:=⟨false,[.str]⟩
theorem zML (s t:List UInt8):z5Y zYC (.str s) (.str t)=some (s==t):=rfl
theorem zFj (s:List UInt8):∀ (ks:List (List UInt8)) (n i:Nat),(s∉ks∧z3B zYC (.str s) (z2c n ks) i=some none)∨∃ j,ks[j]? =some s∧z3B zYC (.str s) (z2c n ks) i=some (some (i+j))
 | [],n,i=>.inl ⟨by simp,rfl⟩
 | k::ks,n,i=>by
  simp only [z2c,z3B,zML]
  cases h:(s==k) with
  | true =>
   have:=eq_of_beq h
   subst this
   exact .inr ⟨0,rfl,rfl⟩
  | false =>
   simp only
   rcases zFj s ks (n+1) (i+1) with ⟨h1,h2⟩ | ⟨j,h1,h2⟩
   ·refine .inl ⟨?_,h2⟩
    rw [lAT]
    rintro (rfl | h3)
    ·simp at h
    ·exact h1 h3
   ·exact .inr ⟨j+1,by simpa using h1,by rw [h2];congr 2;omega⟩
theorem zAK (s:List UInt8):∀ (ks:List (List UInt8)) (n j:Nat),ks[j]? =some s→z7f (z2c n ks) j (.str s) (.bool true)=z2c n ks
 | [],n,j,h=>by simp at h
 | k::ks,n,0,h=>by simp at h;subst h;rfl
 | k::ks,n,j+1,h=>by
  have:=zAK s ks (n+1) j (by simpa using h)
  simp only [z2c,z7f,List.modify_succ_cons] at this ⊢
  rw [this]
theorem zPA {H:z0B} {M:Nat} {b:Blk} (h:H[M]? =some b):H.set M b=H:=by
 apply lCD
 intro i
 rw [lA7]
 by_cases e:M=i
 ·subst e;rw [if_pos rfl,h,if_pos (lAA.1 h).1]
 ·rw [if_neg e]
section steps
variable {P:Program} {H G:z0B} {al:AL} {K:KL} {Qp:AL→AV→z0B→Prop} {os:List IOper} {x y:Arg}
theorem zLB {M:Nat} {ks:List (List UInt8)} {s:List UInt8} (hx:evL al x=.map M) (hy:evL al y=.str s) (hg:H[M]? =some (MB ks)) (h:VV P os al (H.set M (MB (zNY ks s))) K Qp) :
  VV P (⟨none,.i (.n (.update ⟨false,[.str]⟩)),[x,y,.const (.bool true)],none,none⟩::os) al H K Qp:=by
 refine zNu (v:=.top) (H':=H.set M (MB (zNY ks s))) ?_ h
 have hm:z3j H M=some (z2c 0 ks,ks.length):=by simp only [z3j,hg,MB]
 have hk:z8g ⟨false,[.str]⟩ (.str s)=true:=rfl
 have hv:z0u al [x,y,.const (.bool true)]=[.map M,.str s,.bool true]:=by
  show [evL al x,evL al y,AV.bool true]=_
  rw [hx,hy]
 show z9X (.update ⟨false,[.str]⟩) (z0u al [x,y,.const (.bool true)]) H H.length=_
 rw [hv]
 simp only [z9X,hm,hk,if_true]
 rcases zFj s ks 0 0 with ⟨h1,h2⟩ | ⟨j,h1,h2⟩
 ·have h2:z3B ⟨false,[.str]⟩ (.str s) (z2c 0 ks) 0=some none:=h2
  rw [h2]
  simp only [MB,zNY,if_neg h1,z9B,lAH,lB7,lBN]
 ·have h2:z3B ⟨false,[.str]⟩ (.str s) (z2c 0 ks) 0=some (some (0+j)):=h2
  rw [h2]
  simp only [MB,zNY,if_pos (lAF h1),lBN,zAK s ks 0 j h1]
end steps
def Upd (H:z0B) (M:Nat) (ks:List (List UInt8)) (H':z0B):Prop:=M<H.length∧∃ G,H'=H.set M (MB ks)++G
theorem Upd.refl {H:z0B} {M:Nat} {ks:List (List UInt8)} (h:H[M]? =some (MB ks)):Upd H M ks H:=⟨(lAA.1 h).1,[],by rw [zPA h,lAK]⟩
theorem Upd.app {H H':z0B} {M:Nat} {ks:List (List UInt8)} (h:Upd H M ks H') (G:z0B):Upd H M ks (H'++G):=by obtain ⟨h0,G',rfl⟩:=h;exact ⟨h0,G'++G,by rw [lA2]⟩
theorem Upd.set {H H':z0B} {M:Nat} {ks ks2:List (List UInt8)} (h:Upd H M ks H'):Upd H M ks2 (H'.set M (MB ks2)):=by
 obtain ⟨h0,G',rfl⟩:=h
 exact ⟨h0,G',by rw [lD1 _ _ (by simpa using h0),List.set_set]⟩
theorem Upd.get {H H':z0B} {M:Nat} {ks:List (List UInt8)} (h:Upd H M ks H'):H'[M]? =some (MB ks):=by
 obtain ⟨h0,G',rfl⟩:=h
 rw [lAN (by simpa using h0),lA7,if_pos rfl,if_pos h0]
theorem Upd.old {H H':z0B} {M id:Nat} {ks:List (List UInt8)} {b:Blk} (h:Upd H M ks H') (hne:id≠M) (hg:H[id]? =some b):H'[id]? =some b:=by
 obtain ⟨h0,G',rfl⟩:=h
 have:=(lAA.1 hg).1
 rw [lAN (by simpa using this),lA7,if_neg (fun e=>hne e.symm)];exact hg
theorem Upd.trans {H H1 H2:z0B} {M:Nat} {ks ks2:List (List UInt8)} (h:Upd H M ks H1) (k:Upd H1 M ks2 H2):Upd H M ks2 H2:=by
 obtain ⟨h0,G,rfl⟩:=h
 obtain ⟨_,G2,rfl⟩:=k
 exact ⟨h0,G++G2,by rw [lD1 _ _ (by simpa using h0),List.set_set,lA2]⟩
theorem zEr {H:z0B} {a M:Nat} {b c:Blk} (h1:H[a]? =some b) (h2:H[M]? =some c) (h:b≠c):a≠M:=by
 rintro rfl;rw [h1] at h2;injection h2 with h2;exact h h2
mutual
def z1V:Ex→List (List UInt8)
 | .mk op s _ l=>(if op==0 then [s] else [])++z3G l
def z3G:List Ex→List (List UInt8)
 | []=>[]
 | x::xs=>z1V x++z3G xs
end
theorem zBV {l:List Ex} {i:Nat} {x:Ex} (h:l[i]? =some x):z3G (l.take (i+1))=z3G (l.take i)++z1V x:=by
 induction l generalizing i with
 | nil=>simp at h
 | cons y ys ih =>
  cases i with
  | zero=>simp at h;subst h;simp [z3G]
  | succ i=>simp only [lBQ,z3G];rw [ih (by simpa using h),lA2]
theorem z1G (ks a b:List (List UInt8)):z0p ks (a++b)=z0p (z0p ks a) b:=List.foldl_append
def zXh (H:z0B) (M:Nat) (ks:List (List UInt8)):z2U:=fun r H'=>r=.ret (.tuple [])∧Upd H M ks H'
theorem c60 (e:Ex) (he:okE e) {H:z0B} {a b M:Nat} {ks:List (List UInt8)} (ha:H[a]? =some (.cells [.map M])) (hb:H[b]? =some (.cells [.clo (.func 158) [] [.ptr a 0,.ptr b 0]])) (hM:H[M]? =some (MB ks)) :
  z0D PP 158 [enc e,.ptr a 0,.ptr b 0] H (zXh H M (z0p ks (z1V e))):=by
 match e,he with
 | .mk op s nl l,he =>
  have hs:=z4h nl l
  have hl:(l.map enc).length=l.length:=lAE _
  have hll:=zCz he
  have hne1:=zEr ha hM (by unfold MB;simp)
  have hne2:=zEr hb hM (by unfold MB;simp)
  rw [z0a]
  refine zMP.c3 z0R mixed rfl ?_
  refine z0E ?_
  refine zKm (fun al' H'=>(al'=[(2,.ptr b 0),(3,.ptr (H.length+0) 0)]∨al'=[(1,.ptr a 0),(2,.ptr b 0),(3,.ptr (H.length+0) 0),(8,.bool false)])∧Upd H M (z0p ks (if op==0 then [s] else [])) H'∧H'[H.length+0]? =some (.cells [.int .i64 op,.str s,lst nl l])) ?_ ?_
  ·cases h0:(op==0)
   ·refine z0E ?_
    exact ⟨.inr rfl,(Upd.refl hM).app _,z1R⟩
   ·refine z0E ?_
    refine zLB rfl rfl (z0G hM) ?_
    refine z0E ?_
    refine ⟨.inl rfl,((Upd.refl hM).app _).set,?_⟩
    rw [lA7,if_neg (by have:=(lAA.1 hM).1;omega)]
    exact z1R
  have fin:∀ al' H',Upd H M (z0p ks (z1V (.mk op s nl l))) H'→z3m zRw.rs (zXh H M (z0p ks (z1V (.mk op s nl l)))) .normal al' H':=fun al' H' h=>fp_n rfl ⟨rfl,h⟩
  have hsy:z0p ks (z1V (.mk op s nl l))=z0p (z0p ks (if op==0 then [s] else [])) (z3G l):=by simp only [z1V,z1G]
  generalize z0p ks (if op==0 then [s] else [])=ks1 at *
  rw [hsy] at fin ⊢
  rintro _ H1 ⟨rfl | rfl,hU,hB⟩
  all_goals
   refine z0E ?_
   refine z0F l.length (fun i al H'=>al=[(2,.ptr b 0),(13,lst nl l),(14,.int .i64 (l.map enc).length),(15,.int .i64 i)]∧Upd H M (z0p ks1 (z3G (l.take i))) H') ⟨rfl,hU⟩ ?_
   clear hU hB H1
   rintro i _ H1 hi ⟨rfl,hU⟩
   refine z6g ?_
   refine z0E ?_
   refine z0Q _ rfl ?_ ?_<;>intro hc
   ·simp only [lAD] at hc
    obtain ⟨c,hc⟩:=z0M (l:=l) (i:=i) (by omega)
    have hu:=z0q (f:=enc) hc
    have hm:=lAF hc
    have ht:=zBV hc
    obtain ⟨op',s',nl',l'⟩:=c
    rw [z0a] at hu
    have ha1:=hU.old hne1 ha
    have hb1:=hU.old hne2 hb
    have ih:=fun G=>c60 (.mk op' s' nl' l') (z5J he hm) (H:=H1++G) (z0G ha1) (z0G hb1) (z0G hU.get)
    simp only [z0a] at ih
    refine z0E ?_
    refine z2n rfl zMP.hasBody (ih _) ?_ ?_
    ·rintro v H2 ⟨_,hU2⟩
     refine z0E ?_
     refine ⟨by omega,rfl,?_⟩
     rw [ht,z1G]
     exact (hU.app _).trans hU2
    ·rintro v H2 ⟨h,_⟩;cases h
   ·simp only [lAC] at hc
    have:i=l.length:=by omega
    subst this
    rw [lAW] at hU
    refine z0E ?_
    exact fin _ _ (hU.app _)
termination_by SizeOf.sizeOf e
decreasing_by all_goals (subst_vars;exact z2s (by assumption))
section den
variable {α:Type} [BEq α]
def sub (w:List α) (i k:Nat):List α:=(w.drop i).take (k-i)
def zCs (f:List α→Bool) (w:List α) (is:Bool) (lo i:Nat) (l:List Bool):List Bool:=l.mapIdx fun k b=>b||(is&&decide (lo≤k)&&f (sub w i k))
def z4N (f:List α→Bool) (w:List α) (ends:List Bool):Nat→List Bool
 | 0=>List.replicate (w.length+1) false
 | i+1=>zCs f w (ends.getD i false) i i (z4N f w ends i)
def zGQ (f:List α→Bool) (w:List α) (ends:List Bool):List Bool:=z4N f w ends (w.length+1)
def z8h (n:Nat):List Bool:=true::List.replicate n false
def z2e:List (List α→Bool)→List α→List Bool→List Bool
 | [],_,ends=>ends
 | f::fs,w,ends=>z2e fs w (zGQ f w ends)
def zAz (fs:List (List α→Bool)) (w:List α):Bool:=(z2e fs w (z8h w.length)).getD w.length false
def z3Q (f:List α→Bool) (w:List α):Nat→List Bool
 | 0=>z8h w.length
 | i+1=>zCs f w ((z3Q f w i).getD i false) (i+1) i (z3Q f w i)
def z4K (f:List α→Bool) (w:List α):Bool:=(z3Q f w w.length).getD w.length false
def z2u (f:List α→Bool) (w:List α):Bool:=(List.range (w.length+1)).any fun i=>f (w.drop i)
def z0g (f:List α→Bool) (w:List α):Bool:=(List.range (w.length+1)).any fun i=>f (w.take i)
def zNX (f:List α→Bool) (w:List α):Bool:=(List.range (w.length+1)).any fun i=>z0g f (w.drop i)
def zEf (f g h:List α→Bool) (w:List α):Bool :=
 (List.range (w.length+1)).all fun i=>(List.range (w.length+1)).all fun k=>!(decide (i≤k)&&f (sub w i k))||(z2u g (w.take i)&&z0g h (w.drop k))
def z2C (op:Int) (s:List α) (fs:List (List α→Bool)) (w:List α):Bool :=
 let a:=fs.getD 0 fun _=>false
 if op=0 then w==s
 else if op=1 then (w.length:Int)==1
 else if op=2 then w.isEmpty
 else if op=4 then zAz fs w
 else if op=5 then fs.any fun f=>f w
 else if op=6 then fs.all fun f=>f w
 else if op=7 then a w && !(fs.getD 1 fun _=>false) w
 else if op=8 then z4K a w
 else if op=9 then (w.isEmpty&&a w)||(!w.isEmpty&&z4K a w)
 else if op=10 then w.isEmpty||a w
 else if op=11 then !a w
 else if op=12 then zNX a w
 else if op=14 then zEf a (fs.getD 1 fun _=>false) (fs.getD 2 fun _=>false) w
 else false
end den
end Go.Ab
