/- Part 31 of the proof. -/
import Derived.Test.YtagcckioikbanaaGreatDoorA24
import Derived.Test.YtagcckioikbanaaGreatDoorA30
set_option linter.unusedVariables false
set_option linter.unusedSimpArgs false
namespace Go.Ab
open Go
set_option maxRecDepth 100000
theorem zEZ {a b:List (List UInt8)} {i:Nat} {x y:List UInt8} (hl:a.length=b.length) (hx:a[i]? =some x) (hy:b[i]? =some y) :
  (a.take (i+1)==b.take (i+1))=((a.take i==b.take i)&&(x==y)):=by
 rw [lA1,lA1,hx,hy]
 have h1:=(lAA.1 hx).1
 have h2:=(lAA.1 hy).1
 apply lBM.2
 simp only [Option.toList,lDF,lAS]
 constructor
 ·intro h
  have:=List.append_inj h (by simp;omega)
  exact ⟨this.1,by simpa using this.2⟩
 ·rintro ⟨e1,e2⟩;rw [e1,e2]
theorem c80 {v u:AV} {a b:List (List UInt8)} (hv:Sl 1 v (a.map .str)) (hu:Sl 1 u (b.map .str)) (ha:a.length≤1000000000000) (H:z0B):z0C PP 139 [v,u] H (z1D H (.bool (a==b))):=by
 have hl:(a.map AV.str).length=a.length:=lAD _
 have hl':(b.map AV.str).length=b.length:=lAD _
 refine z0C.gives (zVS.c2 z0P mixed rfl ?_)
 refine z0F ?_
 refine z0R _ rfl ?_ ?_<;>intro hc
 ·have:(a==b)=false:=by
   simp only [bne_iff_ne,ne_eq] at hc
   rw [beq_eq_false_iff_ne];rintro rfl;exact hc rfl
  rw [this]
  refine z0F ?_
  exact fr
 ·have hlen:a.length=b.length:=by
   have:((a.map AV.str).length:Int)=(b.map AV.str).length:=by simpa using hc
   omega
  refine z0F ?_
  refine z0H a.length (fun i al H'=>al=[(0,v),(1,u),(12,.int .i64 (a.map AV.str).length),(13,.int .i64 i)]∧H'=H++[]∧(a.take i==b.take i)=true) ⟨rfl,rfl,by simp⟩ ?_
  rintro i _ _ hi ⟨rfl,rfl,hb⟩
  refine z0F ?_
  refine z0R _ rfl ?_ ?_<;>intro hc
  ·simp only [lAE] at hc
   obtain ⟨x,hx⟩:=z0M (l:=a) (i:=i) (by omega)
   obtain ⟨y,hy⟩:=z0M (l:=b) (i:=i) (by omega)
   have hxu:=z1A (f:=AV.str) hx
   have hyu:=z1A (f:=AV.str) hy
   have hs:=zEZ hlen hx hy
   refine z0F ?_
   refine z0R _ rfl ?_ ?_<;>intro hq
   ·have:(a==b)=false:=by
     rw [beq_eq_false_iff_ne];rintro rfl
     rw [hx] at hy;injection hy with hy;subst hy
     simp at hq
    rw [this]
    refine z0F ?_
    exact fr
   ·refine z0F ?_
    refine ⟨by omega,rfl,rfl,?_⟩
    rw [hs,hb];simpa using hq
  ·simp only [lAC] at hc
   have:i=a.length:=by omega
   subst this
   rw [lAW,hlen,lAW] at hb
   rw [hb]
   refine z0F ?_
   exact fr
def z9p:List (List UInt8)→List (List UInt8)→Int
 | [],[]=>0
 | [],_::_=>-1
 | _::_,[]=>1
 | a::as_,b::bs=>if Op.bytesLess a b then -1 else if !(Op.bytesLess a b||a==b) then 1 else z9p as_ bs
theorem zHY (a:List UInt8):Op.bytesLess a a=false:=by
 induction a with
 | nil=>rfl
 | cons x xs ih=>simp [Op.bytesLess,ih]
theorem zCs:∀ a b:List (List UInt8),(z9p a b==0)=(a==b)
 | [],[]=>rfl
 | [],_::_=>rfl
 | _::_,[]=>rfl
 | a::as_,b::bs=>by
  simp only [z9p]
  cases h1:Op.bytesLess a b with
  | true =>
   have:(a::as_==b::bs)=false:=by
    rw [beq_eq_false_iff_ne];intro e;injection e with e1 e2;subst e1;rw [zHY] at h1;cases h1
   rw [this];rfl
  | false =>
   cases h2:(a==b) with
   | false =>
    have:(a::as_==b::bs)=false:=by
     rw [beq_eq_false_iff_ne];intro e;injection e with e1 e2;subst e1;simp at h2
    rw [this];rfl
   | true =>
    have:=eq_of_beq h2
    subst this
    simp only [Bool.or_true,lDL,lAX,if_false]
    rw [zCs as_ bs]
    apply lBM.2;simp
theorem z2a {α:Type} {l:List α} {i:Nat} {x:α} (h:l[i]? =some x):l.drop i=x::l.drop (i+1):=by
 have hlt:=(lAA.1 h).1
 rw [lBQ hlt]
 rw [lAG hlt] at h
 injection h with h;rw [h]
theorem c45 {v u:AV} {a b:List (List UInt8)} (hv:Sl 1 v (a.map .str)) (hu:Sl 1 u (b.map .str)) (ha:a.length≤1000000000000) (H:z0B):z0C PP 171 [v,u] H (z1D H (.int .i64 (z9p a b))):=by
 have hl:(a.map AV.str).length=a.length:=lAD _
 have hl':(b.map AV.str).length=b.length:=lAD _
 have e1:∀ i:Nat,decide ((i:Int)<(a.map AV.str).length)=decide (i<a.length):=fun i=>by rw [hl];simp
 have e2:∀ i:Nat,decide ((i:Int)<(b.map AV.str).length)=decide (i<b.length):=fun i=>by rw [hl'];simp
 refine z0C.gives (zVC.c2 z0P mixed rfl ?_)
 refine z0F ?_
 refine z0H a.length (fun i al H'=>al=[(0,v),(1,u),(5,.int .i64 i)]∧H'=H++[]∧i≤b.length∧z9p a b=z9p (a.drop i) (b.drop i)) ⟨rfl,rfl,by omega,rfl⟩ ?_
 rintro i _ _ hi ⟨rfl,rfl,hi',hb⟩
 have fin:(¬ i<a.length∨¬ i<b.length)→z9p a b=if decide (((a.map AV.str).length:Int)<(b.map AV.str).length) then -1 else if decide (((a.map AV.str).length:Int)>(b.map AV.str).length) then 1 else 0:=by
  intro h
  rw [hb,hl,hl']
  by_cases h1:i<a.length
  ·have h2:b.length≤i:=by omega
   rw [lDC h2,lBQ h1,if_neg (by simp;omega),if_pos (by simp;omega)];rfl
  ·have h1:a.length≤i:=by omega
   rw [lDC h1]
   by_cases h2:i<b.length
   ·rw [lBQ h2,if_pos (by simp;omega)];rfl
   ·rw [lDC (by omega),if_neg (by simp;omega),if_neg (by simp;omega)];rfl
 refine z0F ?_
 rw [e1]
 cases h1:decide (i<a.length)
 ·simp only [lAC] at h1
  rw [fin (.inl h1)]
  refine z0F ?_
  cases h5:decide (((a.map AV.str).length:Int)<(b.map AV.str).length)
  ·refine z0F ?_
   cases h6:decide (((a.map AV.str).length:Int)>(b.map AV.str).length)
   ·refine z0F ?_
    exact fr
   ·refine z0F ?_
    exact fr
  ·refine z0F ?_
   exact fr
 ·simp only [lAE] at h1
  refine z0F ?_
  rw [e2]
  cases h2:decide (i<b.length)
  ·simp only [lAC] at h2
   rw [fin (.inr h2)]
   refine z0F ?_
   cases h5:decide (((a.map AV.str).length:Int)<(b.map AV.str).length)
   ·refine z0F ?_
    cases h6:decide (((a.map AV.str).length:Int)>(b.map AV.str).length)
    ·refine z0F ?_
     exact fr
    ·refine z0F ?_
     exact fr
   ·refine z0F ?_
    exact fr
  ·simp only [lAE] at h2
   obtain ⟨x,hx⟩:=z0M (l:=a) (i:=i) (by omega)
   obtain ⟨y,hy⟩:=z0M (l:=b) (i:=i) (by omega)
   have hxu:=z1A (f:=AV.str) hx
   have hyu:=z1A (f:=AV.str) hy
   rw [z2a hx,z2a hy] at hb
   simp only [z9p] at hb
   refine z0F ?_
   cases h3:Op.bytesLess x y
   ·rw [h3] at hb
    refine z0F ?_
    cases h4:(!(Op.bytesLess x y||x==y))
    ·rw [h3] at h4
     rw [h4] at hb
     refine z0F ?_
     exact ⟨by omega,rfl,rfl,by omega,hb⟩
    ·rw [h3] at h4
     rw [h4] at hb
     rw [hb]
     refine z0F ?_
     exact fr
   ·rw [h3] at hb
    rw [hb]
    refine z0F ?_
    exact fr
theorem c17 {v u:AV} {a b:List (List UInt8)} (hv:Sl 1 v (a.map .str)) (hu:Sl 1 u (b.map .str)) (ha:a.length≤1000000000000) (H:z0B):z0C PP 106 [v,u] H (z1D H (.bool (a==b))):=by
 refine z0C.gives (zVh.c2 z0P mixed rfl ?_)
 refine z0F ?_
 refine z0J rfl (c45 hv hu ha _) ?_
 refine z0F ?_
 rw [zCs]
 exact fr
theorem zKd {P:Program} {H:z0B} {al:AL} {K:KL} {Qp:AL→AV→z0B→Prop} {os:List IOper} {d:Nat} {x y:Arg} {sz i:Nat} {w:AV} {xs:List AV} (hx:evL al x=w) (hs:Sl sz w xs) (hy:evL al y=.int .i64 i) (hi:i≤xs.length)
  (h:∀ v',Sl sz v' (xs.take i)→VV P os ((d,v')::al) H K Qp):VV P (⟨some d,.i (.d (.sliceSl sz false true)),[x,y],none,none⟩::os) al H K Qp:=by
 cases hs with
 | nil =>
  have:i=0:=by simpa using hi
  subst this
  refine z2K (v:=.nilslice) ?_ (h _ (by simpa using Sl.nil))
  simp [z1G,hx,hy,z1t,z3g,z2R]
 | list =>
  refine z2K (v:=.list sz (xs.take i)) ?_ (h _ (.list _))
  simp only [z1G,hx,hy,z1t,z3g,if_true,z2R]
  rw [if_pos ⟨by omega,by omega⟩]
  simp
theorem z6P {P:Program} {H:z0B} {al:AL} {K:KL} {Qp:AL→AV→z0B→Prop} {os:List IOper} {d:Nat} {fn:Fn} {as_:List Arg} {vs:List AV} (ha:z1G al as_=vs)
  (h:VV P os ((d,.clo fn [] vs)::al) H K Qp):VV P (⟨some d,.i (.d (.mkFunc fn 0)),as_,none,none⟩::os) al H K Qp:=z2K (v:=.clo fn [] vs) (by rw [ha];rfl) h
structure Wd where
 nl:Bool
 l:List (List UInt8)
def z0X (w:Wd):AV:=if w.nl&&w.l.isEmpty then .nilslice else .list 1 (w.l.map .str)
theorem z6S (w:Wd):Sl 1 (z0X w) (w.l.map .str):=by
 obtain ⟨nl,l⟩:=w
 unfold z0X
 cases l with
 | nil=>cases nl<;>first | exact .nil | exact .list []
 | cons x xs=>simp only [List.isEmpty_cons,lD6,lAX,if_false];exact .list _
theorem zQC (w:Wd):AV.scalar (z0X w)=true:=by unfold z0X;split<;>rfl
structure Pr where
 a:Wd
 b:Wd
def z2e (p:Pr):AV:=.agg [z0X p.a,z0X p.b]
abbrev okP (p:Pr):Prop:=okW p.a.l∧okW p.b.l
theorem zLe {a b:Wd}:([z0X a,z0X b]:List AV).all AV.scalar=true:=by
 simp only [lB3,zQC,List.all_nil];rfl
theorem c140 {v:AV} {w:List Pr} (hv:Sl 2 v (w.map z2e)) (hw:w.length≤1000000000000) {g:FuncId} {fs cs:List AV} {p:Pr→Bool} (hg:hasBody PP g=true) {H:z0B}
  (hp:∀ s∈w,z0C PP g (fs++[z2e s]++cs) H (z1D H (.bool (p s)))) :
  z0C PP 192 [v,.clo (.func g) fs cs] H (z1D H (.int .i64 (zNS (w.findIdx? p)))):=by
 have hl:(w.map z2e).length=w.length:=lAD _
 refine z0C.gives (zUx.c2 z0P mixed rfl ?_)
 refine z0F ?_
 refine z0H w.length (fun i al H'=>al=[(0,v),(1,.clo (.func g) fs cs),(7,.int .i64 (w.map z2e).length),(8,.int .i64 i)]∧H'=H++[]∧∀ k c,k<i→w[k]? =some c→p c=false) ⟨rfl,rfl,by omega⟩ ?_
 rintro i _ _ hi ⟨rfl,rfl,hb⟩
 refine z0F ?_
 refine z0R _ rfl ?_ ?_<;>intro hc
 ·simp only [lAE] at hc
  obtain ⟨c,hc⟩:=z0M (l:=w) (i:=i) (by omega)
  have hu:(w.map z2e)[i]? =some (.agg [z0X c.a,z0X c.b]):=z1A (f:=z2e) hc
  have hpc':=hp c (lAF hc)
  rw [←lAJ H] at hpc'
  refine z0F ?_
  refine z3V rfl hg hpc' ?_
  refine z0F ?_
  refine z0R _ rfl ?_ ?_<;>intro hpc
  ·have:w.findIdx? p=some i:=by
    rw [lBU]
    refine ⟨by omega,?_,?_⟩
    ·rw [lAG (by omega)] at hc;injection hc with hc;rw [hc];exact hpc
    ·intro j hj;rw [hb j _ hj (lAG (by omega))];simp
   rw [this]
   refine z0F ?_
   exact fr
  ·refine z0F ?_
   refine ⟨by omega,rfl,rfl,?_⟩
   intro k d hk hd
   rcases lCL.1 hk with h | h
   ·exact hb k d h hd
   ·subst h;rw [hc] at hd;injection hd with hd;rw [←hd];exact hpc
 ·simp only [lAC] at hc
  have:w.findIdx? p=none:=by
   rw [lB5]
   intro x hx
   obtain ⟨k,hk,rfl⟩:=lC0 hx
   exact hb k _ (by omega) (lAG hk)
  rw [this]
  refine z0F ?_
  exact fr
theorem c81 {v:AV} {w:List Pr} (hv:Sl 2 v (w.map z2e)) (hw:w.length≤1000000000000) {g:FuncId} {fs cs:List AV} {p:Pr→Bool} (hg:hasBody PP g=true) {H:z0B}
  (hp:∀ s∈w,z0C PP g (fs++[z2e s]++cs) H (z1D H (.bool (p s)))) :
  z0C PP 140 [v,.clo (.func g) fs cs] H (z1D H (.bool (w.any p))):=by
 refine z0C.gives (zVR.c2 z0P mixed rfl ?_)
 rw [←lAJ H] at hp
 refine z0F ?_
 refine z0J rfl (c140 hv hw hg hp) ?_
 refine z0F ?_
 rw [zEH]
 exact fr
def z7a (p q:Pr):Bool:=(p.a.l==q.a.l)&&(p.b.l==q.b.l)
theorem c79 {p q:Pr} (hp:okP p) {id:Nat} {H:z0B} (hb:H[id]? =some (.cells [z0X p.a,z0X p.b])):z0C PP 138 [z2e q,.ptr id 0] H (z1D H (.bool (z7a p q))):=by
 have h1:=fun H=>c80 (z6S p.a) (z6S q.a) hp.1.1 H
 have h2:=fun H=>c80 (z6S p.b) (z6S q.b) hp.2.1 H
 refine z0C.gives (zSv.c2 z0P mixed rfl ?_)
 unfold z2e
 refine z0F ?_
 refine z0J rfl (h1 _) ?_
 refine z0F ?_
 cases h3:(p.a.l==q.a.l)
 ·rw [show z7a p q=false by simp only [z7a,h3];rfl]
  refine z0F ?_
  exact fr
 ·rw [show z7a p q=(p.b.l==q.b.l) by simp only [z7a,h3,lCW]]
  refine z0F ?_
  refine z0J rfl (h2 _) ?_
  refine z0F ?_
  exact fr
def z5c (l:List Pr) (i:Nat):Bool :=
 match l[i]? with
 | none=>false
 | some p=>(p.a.l==[])||(l.take i).any (z7a p)
def z7X (l:List Pr):Bool:=(List.range l.length).any (z5c l)
theorem c40 {v:AV} {w:List Pr} (hv:Sl 2 v (w.map z2e)) (hw:w.length≤1000000000000) (hok:∀ p∈w,okP p) (H:z0B):z0C PP 75 [v] H (z1D H (.bool (z7X w))):=by
 have hl:(w.map z2e).length=w.length:=lAD _
 refine z0C.gives (is75.c1 z0P mixed rfl ?_)
 refine z0F ?_
 refine z0H w.length (fun i al H'=>al=[(0,v),(6,v),(7,.int .i64 (w.map z2e).length),(8,.int .i64 i)]∧Ext H H'∧∀ k,k<i→z5c w k=false) ⟨rfl,⟨_,rfl⟩,by omega⟩ ?_
 rintro i _ H1 hi ⟨rfl,hx,hb⟩
 refine z7L ?_
 refine z0F ?_
 refine z0R _ rfl ?_ ?_<;>intro hc
 ·simp only [lAE] at hc
  obtain ⟨c,hc⟩:=z0M (l:=w) (i:=i) (by omega)
  have hm:=lAF hc
  have hu:(w.map z2e)[i]? =some (.agg [z0X c.a,z0X c.b]):=z1A (f:=z2e) hc
  have ht:z5c w i=((c.a.l==[])||(w.take i).any (z7a c)):=by simp only [z5c,hc]
  have htw:z5c w i=true→z7X w=true:=fun h=>lA0.2 ⟨i,lA8.2 (by omega),h⟩
  have e0:(((c.a.l.map AV.str).length:Int)==0)=(c.a.l==[]):=by
   cases c.a.l<;>simp
   omega
  have hsW:=z6S c.a
  refine z0F ?_
  refine z1v (n:=0) (ws:=[z0X c.a,z0X c.b]) rfl rfl rfl rfl rfl zLe rfl ?_
  refine z0F ?_
  refine z6P (vs:=[.ptr (H1.length+0) 0]) rfl ?_
  refine z0F ?_
  rw [e0]
  cases h1:(c.a.l==[])
  ·refine z0F ?_
   refine zKd rfl hv rfl (by omega) ?_
   intro v' hv'
   refine z0F ?_
   have hv'':Sl 2 v' ((w.take i).map z2e):=by rw [lDW];exact hv'
   have hcl:∀ q∈w.take i,z0C PP 138 ([]++[z2e q]++[.ptr (H1.length+0) 0]) (H1++[.cells [z0X c.a,z0X c.b]]) (z1D (H1++[.cells [z0X c.a,z0X c.b]]) (.bool (z7a c q))) :=
    fun q hq=>c79 (hok c hm) z1S
   refine z0J rfl (c81 hv'' (by simp;omega) zSv.hasBody hcl) ?_
   refine z0F ?_
   refine z0R _ rfl ?_ ?_<;>intro h2
   ·rw [htw (by rw [ht,h1,h2];rfl)]
    refine z0F ?_
    exact z0W rfl (z0b (hx.app _) (z0N.bool _))
   ·refine z0F ?_
    refine ⟨by omega,rfl,hx.app _,?_⟩
    intro k hk
    rcases lCL.1 hk with h | h
    ·exact hb k h
    ·subst h;rw [ht,h1,h2];rfl
  ·rw [htw (by rw [ht,h1];rfl)]
   refine z0F ?_
   exact z0W rfl (z0b (hx.app _) (z0N.bool _))
 ·simp only [lAC] at hc
  have:z7X w=false:=by
   rw [z7X,lB1];intro k hk;rw [hb k (by have:=lA8.1 hk;omega)];simp
  rw [this]
  refine z0F ?_
  exact z0W rfl (z0b (hx.app _) (z0N.bool _))
set_option maxHeartbeats 8000000
def sel3 (S0 S1 S2:AL→z0B→Prop):Nat→AL→z0B→Prop
 | 0=>S0
 | 1=>S1
 | 2=>S2
 | _+3=>fun _ _=>False
theorem zAg {K K':AL→z0B→Prop} {Q:PL} (hk:∀ al H,K al H→K' al H):∀ x al H,LX.then K Q x al H→LX.then K' Q x al H:=by
 intro x al H q
 cases x with
 | normal=>exact hk _ _ q
 | _=>exact q
theorem z6w {P:Program} {H:z0B} {al:AL} {Q:PL} {c:IC} {keep:List Nat} (S0 S1 S2:AL→z0B→Prop) (h:S0 (z1g al keep) H)
  (h0:∀ al H,S0 al H→WI P c (LX.then (fun al' H'=>S1 (z1g al' keep) H') Q) al H)
  (h1:∀ al H,S1 al H→WI P c (LX.then (fun al' H'=>S2 (z1g al' keep) H') Q) al H)
  (h2:∀ al H,S2 al H→WI P c (LX.then (fun _ _=>False) Q) al H):WI P (.loop (some keep) c) Q al H:=by
 refine z0H 3 (sel3 S0 S1 S2) h ?_
 intro i al H hi hS
 match i,hi,hS with
 | 0,hi,hS=>exact (h0 al H hS).mono (zAg fun al H q=>⟨by omega,q⟩)
 | 1,hi,hS=>exact (h1 al H hS).mono (zAg fun al H q=>⟨by omega,q⟩)
 | 2,hi,hS=>exact (h2 al H hS).mono (zAg fun al H q=>q.elim)
 | i+3,hi,hS=>exact hS.elim
abbrev Pl:=Ex × Ex
def z1L (p:Pl):AV:=match p with
 | (.mk a b c d,.mk a' b' c' d')=>.agg [.int .i64 a,.str b,lst c d,.int .i64 a',.str b',lst c' d']
structure Ru where
 kind:Int
 pn:Bool
 pairs:List Pr
 ln:Bool
 places:List Pl
 below:Bool
def z0T (nl:Bool) (l:List Pr):AV:=if nl&&l.isEmpty then .nilslice else .list 2 (l.map z2e)
def z0U (nl:Bool) (l:List Pl):AV:=if nl&&l.isEmpty then .nilslice else .list 6 (l.map z1L)
theorem zCB (nl:Bool) (l:List Pr):Sl 2 (z0T nl l) (l.map z2e):=by
 unfold z0T
 cases l with
 | nil=>cases nl<;>first | exact .nil | exact .list []
 | cons x xs=>simp only [List.isEmpty_cons,lD6,lAX,if_false];exact .list _
theorem zHF (nl:Bool) (l:List Pl):Sl 6 (z0U nl l) (l.map z1L):=by
 unfold z0U
 cases l with
 | nil=>cases nl<;>first | exact .nil | exact .list []
 | cons x xs=>simp only [List.isEmpty_cons,lD6,lAX,if_false];exact .list _
theorem z1n (nl:Bool) (l:List Pr):AV.scalar (z0T nl l)=true:=by unfold z0T;split<;>rfl
theorem z1p (nl:Bool) (l:List Pl):AV.scalar (z0U nl l)=true:=by unfold z0U;split<;>rfl
def z6F (r:Ru):AV:=.agg [.int .i64 r.kind,z0T r.pn r.pairs,z0U r.ln r.places,.bool r.below]
structure okR (r:Ru):Prop where
 np:r.pairs.length≤1000000000000
 nl:r.places.length≤1000000000000
 ps:∀ p∈r.pairs,okP p
 ls:∀ p∈r.places,okE p.1∧okE p.2
def z6Y (p:Pr):Bool:=decide ((p.a.l.length:Int)>6)||decide ((p.b.l.length:Int)>60)
def zDv:List Pr→Int
 | []=>0
 | p::ps=>if z1X p.a.l != 0 then z1X p.a.l else if z1X p.b.l != 0 then z1X p.b.l else zDv ps
def zEh (v:Ex→Int):List Pl→Int
 | []=>0
 | p::ps=>if v p.1 != 0 then v p.1 else if v p.2 != 0 then v p.2 else zEh v ps
def zEK (r:Ru):Bool:=decide (r.kind<0)||decide (r.kind>3)||((r.pairs.length:Int)==0)||(r.below&&decide (r.kind<2))||z7X r.pairs
def z7f (p:Pl):Bool:=p.1.odd||p.2.odd
def zBz (r:Ru):Int :=
 if decide ((r.pairs.length:Int)>24)||decide ((r.places.length:Int)>24) then 3 else if r.pairs.any z6Y then 3 else
 if zDv r.pairs != 0 then zDv r.pairs else if zEh z5y r.places != 0 then zEh z5y r.places else if zEK r then 1 else if r.places.any z7f then 1 else 0
theorem zKN {a a':Int} {b b':List UInt8} {c c':Bool} {d d':List Ex}:([.int .i64 a,.str b,lst c d,.int .i64 a',.str b',lst c' d']:List AV).all AV.scalar=true:=by
 simp only [lB3,zCp,List.all_nil];rfl
theorem zNe {a b:Wd}:z4T (if 2*1=0 then [] else z1C 2 [.nilslice]) [(0,1),(1,1)] [z0X a,z0X b]=some [z0X a,z0X b]:=by
 unfold z0X
 generalize (a.nl&&a.l.isEmpty)=p
 generalize (b.nl&&b.l.isEmpty)=q
 cases p<;>cases q<;>rfl
theorem c15 (r:Ru) (hr:okR r) (H:z0B):z0C PP 35 [z6F r] H (z1D H (.int .i64 (zBz r))):=by
 obtain ⟨kind,pn,pairs,ln,places,below⟩:=r
 obtain ⟨hnp,hnl,hps,hls⟩:=hr
 simp only at hnp hnl hps hls
 have hsp:=zCB pn pairs
 have hsl:=zHF ln places
 have hlp:(pairs.map z2e).length=pairs.length:=lAD _
 have hll:(places.map z1L).length=places.length:=lAD _
 have e1:∀ k:Int,decide (((pairs.map z2e).length:Int)>k)=decide ((pairs.length:Int)>k):=fun k=>by rw [hlp]
 have e2:∀ k:Int,decide (((places.map z1L).length:Int)>k)=decide ((places.length:Int)>k):=fun k=>by rw [hll]
 have e3:(((pairs.map z2e).length:Int)==0)=((pairs.length:Int)==0):=by rw [hlp]
 have hv:zBz ⟨kind,pn,pairs,ln,places,below⟩=if decide ((pairs.length:Int)>24)||decide ((places.length:Int)>24) then 3 else if pairs.any z6Y then 3 else
   if zDv pairs != 0 then zDv pairs else if zEh z5y places != 0 then zEh z5y places else if zEK ⟨kind,pn,pairs,ln,places,below⟩ then 1 else if places.any z7f then 1 else 0:=rfl
 refine z0C.gives (is35.c1 z0P mixed rfl ?_)
 unfold z6F
 rw [hv]
 refine z0F ?_
 rw [e1]
 refine zJB [(1,.ptr (H.length+0) 0),(26,.bool (decide ((pairs.length:Int)>24)||decide ((places.length:Int)>24)))] (H++[.cells [.int .i64 kind,z0T pn pairs,z0U ln places,.bool below]]) ?_ ?_
 ·cases h1:decide ((pairs.length:Int)>24)
  ·refine z0F ?_
   rw [e2]
   refine z0F ?_
   exact z4u rfl rfl
  ·refine z0F ?_
   exact z4u rfl rfl
 refine zJb ?_
 refine z0R _ rfl ?_ ?_<;>intro h1
 ·rw [h1]
  refine z0F ?_
  exact fr
 rw [h1]
 refine z0F ?_
 refine z0H pairs.length (fun i al H'=>al=[(1,.ptr (H.length+0) 0),(28,z0T pn pairs),(29,.int .i64 (pairs.map z2e).length),(30,.int .i64 i)]∧Ext H H' ∧
  H'[H.length+0]? =some (.cells [.int .i64 kind,z0T pn pairs,z0U ln places,.bool below])∧(pairs.take i).any z6Y=false) ⟨rfl,⟨_,rfl⟩,z1S,by simp⟩ ?_
 rintro i _ H1 hi ⟨rfl,hx,hb,ha⟩
 refine z7L ?_
 refine z0F ?_
 refine z0R _ rfl ?_ ?_<;>intro hc
 ·simp only [lAE] at hc
  obtain ⟨c,hc⟩:=z0M (l:=pairs) (i:=i) (by omega)
  have hu:(pairs.map z2e)[i]? =some (.agg [z0X c.a,z0X c.b]):=z1A (f:=z2e) hc
  have ht:=z0v (p:=z6Y) hc
  have hany:=z2b (p:=z6Y) hc
  have s1:=z6S c.a
  have s2:=z6S c.b
  have l1:∀ k:Int,decide (((c.a.l.map AV.str).length:Int)>k)=decide ((c.a.l.length:Int)>k):=fun k=>by rw [lAD]
  have l2:∀ k:Int,decide (((c.b.l.map AV.str).length:Int)>k)=decide ((c.b.l.length:Int)>k):=fun k=>by rw [lAD]
  refine z0F ?_
  refine z1v (n:=0) (ws:=[z0X c.a,z0X c.b]) rfl rfl rfl rfl rfl zLe rfl ?_
  refine z0F ?_
  rw [l1]
  cases h2:decide ((c.a.l.length:Int)>6)
  ·refine z0F ?_
   rw [l2]
   cases h3:decide ((c.b.l.length:Int)>60)
   ·refine z0F ?_
    exact ⟨by omega,rfl,hx.app _,z0G hb,by rw [ht,ha];simp only [z6Y,h2,h3];rfl⟩
   ·rw [hany (by simp only [z6Y,h2,h3];rfl)]
    refine z0F ?_
    exact z0W rfl (z0b (hx.app _) (z0N.int _ _))
  ·rw [hany (by simp only [z6Y,h2];rfl)]
   refine z0F ?_
   exact z0W rfl (z0b (hx.app _) (z0N.int _ _))
 simp only [lAC] at hc
 have:i=pairs.length:=by omega
 subst this
 rw [lAW] at ha
 rw [ha]
 clear hc hi
 refine z0F ?_
 refine z0H pairs.length (fun i al H'=>al=[(1,.ptr (H.length+0) 0),(46,z0T pn pairs),(47,.int .i64 (pairs.map z2e).length),(48,.int .i64 i)]∧Ext H H' ∧
  H'[H.length+0]? =some (.cells [.int .i64 kind,z0T pn pairs,z0U ln places,.bool below])∧zDv pairs=zDv (pairs.drop i)) ⟨rfl,hx.app _,z0G hb,rfl⟩ ?_
 clear hx hb ha H1
 rintro i _ H1 hi ⟨rfl,hx,hb,ha⟩
 refine z7L ?_
 refine z0F ?_
 refine z0R _ rfl ?_ ?_<;>intro hc
 ·simp only [lAE] at hc
  obtain ⟨c,hc⟩:=z0M (l:=pairs) (i:=i) (by omega)
  have hu:(pairs.map z2e)[i]? =some (.agg [z0X c.a,z0X c.b]):=z1A (f:=z2e) hc
  have hok:=hps c (lAF hc)
  rw [z2a hc] at ha
  simp only [zDv] at ha
  have k1:=fun H=>c38 (z6S c.a) hok.1 H
  have k2:=fun H=>c38 (z6S c.b) hok.2 H
  refine z0F ?_
  refine z1v (n:=0) (ws:=[z0X c.a,z0X c.b]) rfl rfl rfl rfl rfl zLe rfl ?_
  refine z0F ?_
  refine z8G (out:=[z0X c.a,z0X c.b]) zNe rfl rfl ?_
  refine z0F ?_
  have fin:∀ b,z1X c.b.l=b→z1X c.a.l=0→b≠0→zDv pairs=b:=by
   intro b h1 h2 h3;rw [ha,h2,h1,if_neg (by simp),if_pos (by simpa using h3)]
  refine z6w (fun al H'=>al=[(1,.ptr (H.length+0) 0),(46,z0T pn pairs),(47,.int .i64 (pairs.map z2e).length),(48,.int .i64 i),(56,.sl (H1.length+1) 0 2 1),(57,.int .i64 (2:Nat)),(58,.int .i64 (0:Nat))]∧H'=H1++[.cells [z0X c.a,z0X c.b],.cells [z0X c.a,z0X c.b]])
   (fun al H'=>al=[(1,.ptr (H.length+0) 0),(46,z0T pn pairs),(47,.int .i64 (pairs.map z2e).length),(48,.int .i64 i),(56,.sl (H1.length+1) 0 2 1),(57,.int .i64 (2:Nat)),(58,.int .i64 (1:Nat))]∧H'=H1++[.cells [z0X c.a,z0X c.b],.cells [z0X c.a,z0X c.b]]∧z1X c.a.l=0)
   (fun al H'=>al=[(1,.ptr (H.length+0) 0),(46,z0T pn pairs),(47,.int .i64 (pairs.map z2e).length),(48,.int .i64 i),(56,.sl (H1.length+1) 0 2 1),(57,.int .i64 (2:Nat)),(58,.int .i64 (2:Nat))]∧H'=H1++[.cells [z0X c.a,z0X c.b],.cells [z0X c.a,z0X c.b]]∧z1X c.a.l=0∧z1X c.b.l=0)
   ⟨rfl,rfl⟩ ?_ ?_ ?_
  ·rintro _ _ ⟨rfl,rfl⟩
   refine z0F ?_
   refine z0J rfl (k1 _) ?_
   refine z0F ?_
   refine z0R _ rfl ?_ ?_<;>intro h1
   ·rw [ha,if_pos h1,if_pos h1]
    refine z0F ?_
    exact z0W rfl (z0b (hx.app _) (z0N.int _ _))
   ·refine z0F ?_
    exact ⟨rfl,rfl,by simpa using h1⟩
  ·rintro _ _ ⟨rfl,rfl,h0⟩
   refine z0F ?_
   refine z0J rfl (k2 _) ?_
   refine z0F ?_
   refine z0R _ rfl ?_ ?_<;>intro h1
   ·rw [fin _ rfl h0 (by simpa using h1),if_pos h1]
    refine z0F ?_
    exact z0W rfl (z0b (hx.app _) (z0N.int _ _))
   ·refine z0F ?_
    exact ⟨rfl,rfl,h0,by simpa using h1⟩
  ·rintro _ _ ⟨rfl,rfl,h0,h1⟩
   refine z0F ?_
   exact ⟨by omega,rfl,hx.app _,z0G hb,by rw [ha,h0,h1];rfl⟩
 simp only [lAC] at hc
 have:i=pairs.length:=by omega
 subst this
 rw [lDK] at ha
 rw [ha]
 clear hc hi
 refine z0F ?_
 refine z0H places.length (fun i al H'=>al=[(1,.ptr (H.length+0) 0),(70,z0U ln places),(71,.int .i64 (places.map z1L).length),(72,.int .i64 i)]∧Ext H H' ∧
  H'[H.length+0]? =some (.cells [.int .i64 kind,z0T pn pairs,z0U ln places,.bool below])∧zEh z5y places=zEh z5y (places.drop i)) ⟨rfl,hx.app _,z0G hb,rfl⟩ ?_
 clear hx hb ha H1
 rintro i _ H1 hi ⟨rfl,hx,hb,ha⟩
 refine z7L ?_
 refine z0F ?_
 refine z0R _ rfl ?_ ?_<;>intro hc
 ·simp only [lAE] at hc
  obtain ⟨c,hc⟩:=z0M (l:=places) (i:=i) (by omega)
  obtain ⟨⟨o1,s1,n1,l1⟩,⟨o2,s2,n2,l2⟩⟩:=c
  have hu:(places.map z1L)[i]? =some (.agg [.int .i64 o1,.str s1,lst n1 l1,.int .i64 o2,.str s2,lst n2 l2]):=z1A (f:=z1L) hc
  have hok:=hls _ (lAF hc)
  rw [z2a hc] at ha
  simp only [zEh] at ha
  have k1:=fun H=>c39 (.mk o1 s1 n1 l1) hok.1 H
  have k2:=fun H=>c39 (.mk o2 s2 n2 l2) hok.2 H
  simp only [z0e] at k1 k2
  generalize z5y (.mk o1 s1 n1 l1)=v1 at *
  generalize z5y (.mk o2 s2 n2 l2)=v2 at *
  refine z0F ?_
  refine z1v (n:=0) (ws:=[.int .i64 o1,.str s1,lst n1 l1,.int .i64 o2,.str s2,lst n2 l2]) rfl rfl rfl rfl rfl zKN rfl ?_
  refine z0F ?_
  refine z8G (out:=[.int .i64 o1,.str s1,lst n1 l1,.int .i64 o2,.str s2,lst n2 l2]) rfl rfl rfl ?_
  refine z0F ?_
  refine z6w (fun al H'=>al=[(1,.ptr (H.length+0) 0),(70,z0U ln places),(71,.int .i64 (places.map z1L).length),(72,.int .i64 i),(80,.sl (H1.length+1) 0 2 3),(81,.int .i64 (2:Nat)),(82,.int .i64 (0:Nat))] ∧
    H'=H1++[.cells [.int .i64 o1,.str s1,lst n1 l1,.int .i64 o2,.str s2,lst n2 l2],.cells [.int .i64 o1,.str s1,lst n1 l1,.int .i64 o2,.str s2,lst n2 l2]])
   (fun al H'=>al=[(1,.ptr (H.length+0) 0),(70,z0U ln places),(71,.int .i64 (places.map z1L).length),(72,.int .i64 i),(80,.sl (H1.length+1) 0 2 3),(81,.int .i64 (2:Nat)),(82,.int .i64 (1:Nat))] ∧
    H'=H1++[.cells [.int .i64 o1,.str s1,lst n1 l1,.int .i64 o2,.str s2,lst n2 l2],.cells [.int .i64 o1,.str s1,lst n1 l1,.int .i64 o2,.str s2,lst n2 l2],.cells [.int .i64 o1,.str s1,lst n1 l1]]∧v1=0)
   (fun al H'=>al=[(1,.ptr (H.length+0) 0),(70,z0U ln places),(71,.int .i64 (places.map z1L).length),(72,.int .i64 i),(80,.sl (H1.length+1) 0 2 3),(81,.int .i64 (2:Nat)),(82,.int .i64 (2:Nat))] ∧
    (∃ G,H'=H1++G)∧v1=0∧v2=0) ⟨rfl,rfl⟩ ?_ ?_ ?_
  ·rintro _ _ ⟨rfl,rfl⟩
   refine z0F ?_
   refine z0J rfl (k1 _) ?_
   refine z0F ?_
   refine z0R _ rfl ?_ ?_<;>intro h1
   ·rw [ha,if_pos h1,if_pos h1]
    refine z0F ?_
    exact z0W rfl (z0b (hx.app _) (z0N.int _ _))
   ·refine z0F ?_
    exact ⟨rfl,rfl,by simpa using h1⟩
  ·rintro _ _ ⟨rfl,rfl,h0⟩
   refine z0F ?_
   refine z0J rfl (k2 _) ?_
   refine z0F ?_
   refine z0R _ rfl ?_ ?_<;>intro h1
   ·rw [ha,h0,if_neg (by simp),if_pos h1,if_pos h1]
    refine z0F ?_
    exact z0W rfl (z0b (hx.app _) (z0N.int _ _))
   ·refine z0F ?_
    exact ⟨rfl,⟨_,rfl⟩,h0,by simpa using h1⟩
  ·rintro _ _ ⟨rfl,⟨G,rfl⟩,h0,h1⟩
   refine z0F ?_
   exact ⟨by omega,rfl,hx.app _,z0G hb,by rw [ha,h0,h1];rfl⟩
 simp only [lAC] at hc
 have:i=places.length:=by omega
 subst this
 rw [lDK] at ha
 rw [ha]
 clear hc hi
 have hm:∀ b,zEK ⟨kind,pn,pairs,ln,places,below⟩=b→(decide (kind<0)||decide (kind>3)||((pairs.length:Int)==0)||(below&&decide (kind<2))||z7X pairs)=b:=fun b h=>h
 refine z0F ?_
 refine zGr [(1,.ptr (H.length+0) 0),(120,.bool (zEK ⟨kind,pn,pairs,ln,places,below⟩))] (fun h=>Ext H h∧h[H.length+0]? =some (.cells [.int .i64 kind,z0T pn pairs,z0U ln places,.bool below])) ?_ ?_
 ·have k40:=fun H=>c40 hsp hnp hps H
  have hf:∀ b,(decide (kind<0)||decide (kind>3)||((pairs.length:Int)==0)||(below&&decide (kind<2))||z7X pairs)=b→zEK ⟨kind,pn,pairs,ln,places,below⟩=b:=fun b h=>h
  have hfin:decide (kind<0)=false→decide (kind>3)=false→((pairs.length:Int)==0)=false→(below&&decide (kind<2))=false→zEK ⟨kind,pn,pairs,ln,places,below⟩=z7X pairs:=by
   intro a b c d;exact hf _ (by rw [a,b,c,d];simp)
  cases h2:decide (kind<0)
  ·refine z0F ?_
   cases h3:decide (kind>3)
   ·refine z0F ?_
    rw [e3]
    cases h4:((pairs.length:Int)==0)
    ·refine z0F ?_
     cases below
     ·rw [hfin h2 h3 h4 rfl]
      refine z0F ?_
      refine z0J rfl (k40 _) ?_
      refine z0F ?_
      exact z2T rfl ⟨hx.app _,z0G hb⟩
     ·refine z0F ?_
      cases h5:decide (kind<2)
      ·rw [hfin h2 h3 h4 h5]
       refine z0F ?_
       refine z0J rfl (k40 _) ?_
       refine z0F ?_
       exact z2T rfl ⟨hx.app _,z0G hb⟩
      ·rw [hf true (by rw [h5];simp)]
       refine z0F ?_
       exact z2T rfl ⟨hx.app _,z0G hb⟩
    ·rw [hf true (by rw [h4];simp)]
     refine z0F ?_
     exact z2T rfl ⟨hx.app _,z0G hb⟩
   ·rw [hf true (by rw [h3];simp)]
    refine z0F ?_
    exact z2T rfl ⟨hx.app _,z0G hb⟩
  ·rw [hf true (by rw [h2];rfl)]
   refine z0F ?_
   exact z2T rfl ⟨hx.app _,z0G hb⟩
 clear hx hb ha H1
 rintro H1 ⟨hx,hb⟩
 refine zJb ?_
 refine z0R _ rfl ?_ ?_<;>intro hfo
 ·rw [hfo]
  refine z0F ?_
  exact z0W rfl (z0b hx (z0N.int _ _))
 rw [hfo]
 refine z0F ?_
 refine z0H places.length (fun i al H'=>al=[(122,z0U ln places),(123,.int .i64 (places.map z1L).length),(124,.int .i64 i)]∧Ext H H'∧(places.take i).any z7f=false) ⟨rfl,hx,by simp⟩ ?_
 clear hx hb H1
 rintro i _ H1 hi ⟨rfl,hx,ha⟩
 refine z7L ?_
 refine z0F ?_
 refine z0R _ rfl ?_ ?_<;>intro hc
 ·simp only [lAE] at hc
  obtain ⟨c,hc⟩:=z0M (l:=places) (i:=i) (by omega)
  have ht:=z0v (p:=z7f) hc
  have hany:=z2b (p:=z7f) hc
  have hok:=hls _ (lAF hc)
  have k1:=fun H=>c41 c.1 hok.1 H
  have k2:=fun H=>c41 c.2 hok.2 H
  have ho:z7f c=(c.1.odd||c.2.odd):=rfl
  generalize z7f c=q at *
  generalize c.1.odd=q1 at *
  generalize c.2.odd=q2 at *
  obtain ⟨⟨o1,s1,n1,l1⟩,⟨o2,s2,n2,l2⟩⟩:=c
  have hu:(places.map z1L)[i]? =some (.agg [.int .i64 o1,.str s1,lst n1 l1,.int .i64 o2,.str s2,lst n2 l2]):=z1A (f:=z1L) hc
  simp only [z0e] at k1 k2
  refine z0F ?_
  refine z1v (n:=0) (ws:=[.int .i64 o1,.str s1,lst n1 l1,.int .i64 o2,.str s2,lst n2 l2]) rfl rfl rfl rfl rfl zKN rfl ?_
  refine z0F ?_
  refine z0J rfl (k1 _) ?_
  refine z0F ?_
  cases q1
  ·refine z0F ?_
   refine z0J rfl (k2 _) ?_
   refine z0F ?_
   cases q2
   ·refine z0F ?_
    exact ⟨by omega,rfl,hx.app _,by rw [ht,ha,ho];rfl⟩
   ·rw [hany ho]
    refine z0F ?_
    exact z0W rfl (z0b (hx.app _) (z0N.int _ _))
  ·rw [hany ho]
   refine z0F ?_
   exact z0W rfl (z0b (hx.app _) (z0N.int _ _))
 simp only [lAC] at hc
 have:i=places.length:=by omega
 subst this
 rw [lAW] at ha
 rw [ha]
 refine z0F ?_
 exact z0W rfl (z0b (hx.app _) (z0N.int _ _))
set_option maxHeartbeats 4000000
def z2v:Nat→List (List UInt8)→z3T
 | _,[]=>[]
 | n,k::ks=>(.str k,.bool true,n)::z2v (n+1) ks
def MB (ks:List (List UInt8)):Blk:=.map (z2v 0 ks) ks.length
def zPZ (ks:List (List UInt8)) (s:List UInt8):List (List UInt8):=if s∈ks then ks else ks++[s]
def z0x (ks l:List (List UInt8)):List (List UInt8):=l.foldl zPZ ks
theorem z9t:∀ (ks:List (List UInt8)) (n:Nat) (s:List UInt8),z2v n (ks++[s])=z2v n ks++[(.str s,.bool true,n+ks.length)]
 | [],n,s=>by simp [z2v]
 | k::ks,n,s=>by
  simp only [lB8,z2v,z9t ks,lBC]
  rw [show n+1+ks.length=n+(ks.length+1) by omega]
def zZP:KT:=⟨false,[.str]⟩
theorem zNN (s t:List UInt8):z4p zZP (.str s) (.str t)=some (s==t):=rfl
theorem zGn (s:List UInt8):∀ (ks:List (List UInt8)) (n i:Nat),(s∉ks∧z2p zZP (.str s) (z2v n ks) i=some none)∨∃ j,ks[j]? =some s∧z2p zZP (.str s) (z2v n ks) i=some (some (i+j))
 | [],n,i=>.inl ⟨by simp,rfl⟩
 | k::ks,n,i=>by
  simp only [z2v,z2p,zNN]
  cases h:(s==k) with
  | true =>
   have:=eq_of_beq h
   subst this
   exact .inr ⟨0,rfl,rfl⟩
  | false =>
   simp only
   rcases zGn s ks (n+1) (i+1) with ⟨h1,h2⟩ | ⟨j,h1,h2⟩
   ·refine .inl ⟨?_,h2⟩
    rw [lAV]
    rintro (rfl | h3)
    ·simp at h
    ·exact h1 h3
   ·exact .inr ⟨j+1,by simpa using h1,by rw [h2];congr 2;omega⟩
theorem zAz (s:List UInt8):∀ (ks:List (List UInt8)) (n j:Nat),ks[j]? =some s→z8S (z2v n ks) j (.str s) (.bool true)=z2v n ks
 | [],n,j,h=>by simp at h
 | k::ks,n,0,h=>by simp at h;subst h;rfl
 | k::ks,n,j+1,h=>by
  have:=zAz s ks (n+1) j (by simpa using h)
  simp only [z2v,z8S,List.modify_succ_cons] at this ⊢
  rw [this]
theorem zQB {H:z0B} {M:Nat} {b:Blk} (h:H[M]? =some b):H.set M b=H:=by
 apply lCH
 intro i
 rw [lBF]
 by_cases e:M=i
 ·subst e;rw [if_pos rfl,h,if_pos (lAA.1 h).1]
 ·rw [if_neg e]
section steps
variable {P:Program} {H G:z0B} {al:AL} {K:KL} {Qp:AL→AV→z0B→Prop} {os:List IOper} {x y:Arg}
theorem zMG {M:Nat} {ks:List (List UInt8)} {s:List UInt8} (hx:evL al x=.map M) (hy:evL al y=.str s) (hg:H[M]? =some (MB ks)) (h:VV P os al (H.set M (MB (zPZ ks s))) K Qp) :
  VV P (⟨none,.i (.n (.update ⟨false,[.str]⟩)),[x,y,.const (.bool true)],none,none⟩::os) al H K Qp:=by
 refine zKf (v:=.top) (H':=H.set M (MB (zPZ ks s))) ?_ h
 have hm:z4M H M=some (z2v 0 ks,ks.length):=by simp only [z4M,hg,MB]
 have hk:z9V ⟨false,[.str]⟩ (.str s)=true:=rfl
 have hv:z1G al [x,y,.const (.bool true)]=[.map M,.str s,.bool true]:=by
  show [evL al x,evL al y,AV.bool true]=_
  rw [hx,hy]
 show zAS (.update ⟨false,[.str]⟩) (z1G al [x,y,.const (.bool true)]) H H.length=_
 rw [hv]
 simp only [zAS,hm,hk,if_true]
 rcases zGn s ks 0 0 with ⟨h1,h2⟩ | ⟨j,h1,h2⟩
 ·have h2:z2p ⟨false,[.str]⟩ (.str s) (z2v 0 ks) 0=some none:=h2
  rw [h2]
  simp only [MB,zPZ,if_neg h1,z9t,lAH,lBZ,lBH]
 ·have h2:z2p ⟨false,[.str]⟩ (.str s) (z2v 0 ks) 0=some (some (0+j)):=h2
  rw [h2]
  simp only [MB,zPZ,if_pos (lAF h1),lBH,zAz s ks 0 j h1]
end steps
def Upd (H:z0B) (M:Nat) (ks:List (List UInt8)) (H':z0B):Prop:=M<H.length∧∃ G,H'=H.set M (MB ks)++G
theorem Upd.refl {H:z0B} {M:Nat} {ks:List (List UInt8)} (h:H[M]? =some (MB ks)):Upd H M ks H:=⟨(lAA.1 h).1,[],by rw [zQB h,lAJ]⟩
theorem Upd.app {H H':z0B} {M:Nat} {ks:List (List UInt8)} (h:Upd H M ks H') (G:z0B):Upd H M ks (H'++G):=by obtain ⟨h0,G',rfl⟩:=h;exact ⟨h0,G'++G,by rw [lA3]⟩
theorem Upd.set {H H':z0B} {M:Nat} {ks ks2:List (List UInt8)} (h:Upd H M ks H'):Upd H M ks2 (H'.set M (MB ks2)):=by
 obtain ⟨h0,G',rfl⟩:=h
 exact ⟨h0,G',by rw [lD5 _ _ (by simpa using h0),List.set_set]⟩
theorem Upd.get {H H':z0B} {M:Nat} {ks:List (List UInt8)} (h:Upd H M ks H'):H'[M]? =some (MB ks):=by
 obtain ⟨h0,G',rfl⟩:=h
 rw [lAN (by simpa using h0),lBF,if_pos rfl,if_pos h0]
theorem Upd.old {H H':z0B} {M id:Nat} {ks:List (List UInt8)} {b:Blk} (h:Upd H M ks H') (hne:id≠M) (hg:H[id]? =some b):H'[id]? =some b:=by
 obtain ⟨h0,G',rfl⟩:=h
 have:=(lAA.1 hg).1
 rw [lAN (by simpa using this),lBF,if_neg (fun e=>hne e.symm)];exact hg
theorem Upd.trans {H H1 H2:z0B} {M:Nat} {ks ks2:List (List UInt8)} (h:Upd H M ks H1) (k:Upd H1 M ks2 H2):Upd H M ks2 H2:=by
 obtain ⟨h0,G,rfl⟩:=h
 obtain ⟨_,G2,rfl⟩:=k
 exact ⟨h0,G++G2,by rw [lD5 _ _ (by simpa using h0),List.set_set,lA3]⟩
theorem zFt {H:z0B} {a M:Nat} {b c:Blk} (h1:H[a]? =some b) (h2:H[M]? =some c) (h:b≠c):a≠M:=by
 rintro rfl;rw [h1] at h2;injection h2 with h2;exact h h2
mutual
def z1d:Ex→List (List UInt8)
 | .mk op s _ l=>(if op==0 then [s] else [])++z3Z l
def z3Z:List Ex→List (List UInt8)
 | []=>[]
 | x::xs=>z1d x++z3Z xs
end
theorem zCS {l:List Ex} {i:Nat} {x:Ex} (h:l[i]? =some x):z3Z (l.take (i+1))=z3Z (l.take i)++z1d x:=by
 induction l generalizing i with
 | nil=>simp at h
 | cons y ys ih =>
  cases i with
  | zero=>simp at h;subst h;simp [z3Z]
  | succ i=>simp only [lBV,z3Z];rw [ih (by simpa using h),lA3]
theorem z1T (ks a b:List (List UInt8)):z0x ks (a++b)=z0x (z0x ks a) b:=lD2
def zYx (H:z0B) (M:Nat) (ks:List (List UInt8)):z2g:=fun r H'=>r=.ret (.tuple [])∧Upd H M ks H'
theorem c60 (e:Ex) (he:okE e) {H:z0B} {a b M:Nat} {ks:List (List UInt8)} (ha:H[a]? =some (.cells [.map M])) (hb:H[b]? =some (.cells [.clo (.func 158) [] [.ptr a 0,.ptr b 0]])) (hM:H[M]? =some (MB ks)) :
  z0C PP 158 [enc e,.ptr a 0,.ptr b 0] H (zYx H M (z0x ks (z1d e))):=by
 match e,he with
 | .mk op s nl l,he =>
  have hs:=z5G nl l
  have hl:(l.map enc).length=l.length:=lAD _
  have hll:=zDx he
  have hne1:=zFt ha hM (by unfold MB;simp)
  have hne2:=zFt hb hM (by unfold MB;simp)
  rw [z0e]
  refine zNR.c3 z0P mixed rfl ?_
  refine z0F ?_
  refine zCM (fun al' H'=>(al'=[(2,.ptr b 0),(3,.ptr (H.length+0) 0)]∨al'=[(1,.ptr a 0),(2,.ptr b 0),(3,.ptr (H.length+0) 0),(8,.bool false)])∧Upd H M (z0x ks (if op==0 then [s] else [])) H'∧H'[H.length+0]? =some (.cells [.int .i64 op,.str s,lst nl l])) ?_ ?_
  ·cases h0:(op==0)
   ·refine z0F ?_
    exact ⟨.inr rfl,(Upd.refl hM).app _,z1S⟩
   ·refine z0F ?_
    refine zMG rfl rfl (z0G hM) ?_
    refine z0F ?_
    refine ⟨.inl rfl,((Upd.refl hM).app _).set,?_⟩
    rw [lBF,if_neg (by have:=(lAA.1 hM).1;omega)]
    exact z1S
  have fin:∀ al' H',Upd H M (z0x ks (z1d (.mk op s nl l))) H'→z4P zTB.rs (zYx H M (z0x ks (z1d (.mk op s nl l)))) .normal al' H':=fun al' H' h=>fp_n rfl ⟨rfl,h⟩
  have hsy:z0x ks (z1d (.mk op s nl l))=z0x (z0x ks (if op==0 then [s] else [])) (z3Z l):=by simp only [z1d,z1T]
  generalize z0x ks (if op==0 then [s] else [])=ks1 at *
  rw [hsy] at fin ⊢
  rintro _ H1 ⟨rfl | rfl,hU,hB⟩
  all_goals
   refine z0F ?_
   refine z0H l.length (fun i al H'=>al=[(2,.ptr b 0),(13,lst nl l),(14,.int .i64 (l.map enc).length),(15,.int .i64 i)]∧Upd H M (z0x ks1 (z3Z (l.take i))) H') ⟨rfl,hU⟩ ?_
   clear hU hB H1
   rintro i _ H1 hi ⟨rfl,hU⟩
   refine z7L ?_
   refine z0F ?_
   refine z0R _ rfl ?_ ?_<;>intro hc
   ·simp only [lAE] at hc
    obtain ⟨c,hc⟩:=z0M (l:=l) (i:=i) (by omega)
    have hu:=z1A (f:=enc) hc
    have hm:=lAF hc
    have ht:=zCS hc
    obtain ⟨op',s',nl',l'⟩:=c
    rw [z0e] at hu
    have ha1:=hU.old hne1 ha
    have hb1:=hU.old hne2 hb
    have ih:=fun G=>c60 (.mk op' s' nl' l') (z5k he hm) (H:=H1++G) (z0G ha1) (z0G hb1) (z0G hU.get)
    simp only [z0e] at ih
    refine z0F ?_
    refine z3H rfl zNR.hasBody (ih _) ?_ ?_
    ·rintro v H2 ⟨_,hU2⟩
     refine z0F ?_
     refine ⟨by omega,rfl,?_⟩
     rw [ht,z1T]
     exact (hU.app _).trans hU2
    ·rintro v H2 ⟨h,_⟩;cases h
   ·simp only [lAC] at hc
    have:i=l.length:=by omega
    subst this
    rw [lAW] at hU
    refine z0F ?_
    exact fin _ _ (hU.app _)
termination_by SizeOf.sizeOf e
decreasing_by all_goals (subst_vars;exact z3L (by assumption))
section den
variable {α:Type} [BEq α]
def sub (w:List α) (i k:Nat):List α:=(w.drop i).take (k-i)
def zDq (f:List α→Bool) (w:List α) (is:Bool) (lo i:Nat) (l:List Bool):List Bool:=l.mapIdx fun k b=>b||(is&&decide (lo≤k)&&f (sub w i k))
def z4m (f:List α→Bool) (w:List α) (ends:List Bool):Nat→List Bool
 | 0=>List.replicate (w.length+1) false
 | i+1=>zDq f w (ends.getD i false) i i (z4m f w ends i)
def zHV (f:List α→Bool) (w:List α) (ends:List Bool):List Bool:=z4m f w ends (w.length+1)
def z9W (n:Nat):List Bool:=true::List.replicate n false
def z3A:List (List α→Bool)→List α→List Bool→List Bool
 | [],_,ends=>ends
 | f::fs,w,ends=>z3A fs w (zHV f w ends)
def zBr (fs:List (List α→Bool)) (w:List α):Bool:=(z3A fs w (z9W w.length)).getD w.length false
def z3m (f:List α→Bool) (w:List α):Nat→List Bool
 | 0=>z9W w.length
 | i+1=>zDq f w ((z3m f w i).getD i false) (i+1) i (z3m f w i)
def z4h (f:List α→Bool) (w:List α):Bool:=(z3m f w w.length).getD w.length false
def z3N (f:List α→Bool) (w:List α):Bool:=(List.range (w.length+1)).any fun i=>f (w.drop i)
def z0r (f:List α→Bool) (w:List α):Bool:=(List.range (w.length+1)).any fun i=>f (w.take i)
def zPY (f:List α→Bool) (w:List α):Bool:=(List.range (w.length+1)).any fun i=>z0r f (w.drop i)
def zFg (f g h:List α→Bool) (w:List α):Bool :=
 (List.range (w.length+1)).all fun i=>(List.range (w.length+1)).all fun k=>!(decide (i≤k)&&f (sub w i k))||(z3N g (w.take i)&&z0r h (w.drop k))
def z2S (op:Int) (s:List α) (fs:List (List α→Bool)) (w:List α):Bool :=
 let a:=fs.getD 0 fun _=>false
 if op=0 then w==s
 else if op=1 then (w.length:Int)==1
 else if op=2 then w.isEmpty
 else if op=4 then zBr fs w
 else if op=5 then fs.any fun f=>f w
 else if op=6 then fs.all fun f=>f w
 else if op=7 then a w && !(fs.getD 1 fun _=>false) w
 else if op=8 then z4h a w
 else if op=9 then (w.isEmpty&&a w)||(!w.isEmpty&&z4h a w)
 else if op=10 then w.isEmpty||a w
 else if op=11 then !a w
 else if op=12 then zPY a w
 else if op=14 then zFg a (fs.getD 1 fun _=>false) (fs.getD 2 fun _=>false) w
 else false
end den
end Go.Ab
