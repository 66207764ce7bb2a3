/- Part 30 of the proof. -/
import Derived.Test.YtagcckioikbanaaGreatDoorM24
import Derived.Test.YtagcckioikbanaaGreatDoorM29
set_option linter.unusedVariables false
set_option linter.unusedSimpArgs false
namespace Go.Ab
open Go
set_option maxRecDepth 100000
noncomputable abbrev PP:Program:=Go.Proofs.Tryz.prog
def z1Y (s:List UInt8):Bool:=decide ((s.length:Int)>16)
theorem c73 (s:List UInt8) (H:z0B):z0D PP 87 [.str s] H (z1A H (.bool (z1Y s))):=by
 refine z0D.gives (zYG.c1 z0R mixed rfl ?_)
 refine z0E ?_
 exact z0Y rfl (z2P (z0N.bool _))
def zDj (c:UInt8):Bool:=decide ((c.toNat:Int)<33)||decide ((c.toNat:Int)>126)||((c.toNat:Int)==60)||((c.toNat:Int)==62)
def z4Q (s:List UInt8):Bool:=!(s.any zDj) && !(s==[])
theorem z0r {α:Type} {p:α→Bool} {s:List α} {i:Nat} {c:α} (hc:s[i]? =some c):(s.take (i+1)).any p=((s.take i).any p||p c):=by
 rw [lBA,hc]
 simp
theorem c75 (s:List UInt8) (hs:s.length≤1000000000000) (H:z0B):z0D PP 88 [.str s] H (z1A H (.bool (z4Q s))):=by
 refine z0D.gives (is88.c1 z0R mixed rfl ?_)
 refine z0E ?_
 refine z0F s.length (fun i al H'=>al=[(0,.str s),(5,.int .i64 s.length),(6,.int .i64 i)]∧H'=H++[]∧(s.take i).any zDj=false) ⟨rfl,rfl,by simp⟩ ?_
 rintro i _ _ hi ⟨rfl,rfl,hb⟩
 refine z0E ?_
 refine z0Q _ rfl ?_ ?_<;>intro hc
 ·simp only [lAD] at hc
  obtain ⟨c,hc⟩:∃ c,s[i]? =some c:=⟨s[i]'(by omega),lAG (by omega)⟩
  have hbad:zDj c=true→z4Q s=false:=by
   intro h
   have:s.any zDj=true:=lA3.2 ⟨c,lAF hc,h⟩
   simp [z4Q,this]
  refine z0E ?_
  cases h1:decide ((c.toNat:Int)<33)
  ·refine z0E ?_
   cases h2:decide ((c.toNat:Int)>126)
   ·refine z0E ?_
    cases h3:((c.toNat:Int)==60)
    ·refine z0E ?_
     cases h4:((c.toNat:Int)==62)
     ·refine z0E ?_
      refine ⟨by omega,rfl,rfl,?_⟩
      rw [z0r hc,hb];simp [zDj,h1,h2,h3,h4]
     ·refine z0E ?_
      rw [hbad (by simp [zDj,h1,h2,h3,h4])]
      exact z0Y rfl (z2P (z0N.bool _))
    ·refine z0E ?_
     rw [hbad (by simp [zDj,h1,h2,h3])]
     exact z0Y rfl (z2P (z0N.bool _))
   ·refine z0E ?_
    rw [hbad (by simp [zDj,h1,h2])]
    exact z0Y rfl (z2P (z0N.bool _))
  ·refine z0E ?_
   rw [hbad (by simp [zDj,h1])]
   exact z0Y rfl (z2P (z0N.bool _))
 ·simp only [lAC] at hc
  have:i=s.length:=by omega
  subst this
  rw [lAW] at hb
  refine z0E ?_
  have:z4Q s = !(s==[]):=by simp [z4Q,hb]
  rw [this]
  exact z0Y rfl (z2P (z0N.bool _))
abbrev okS (s:List UInt8):Prop:=s.length≤1000000000000
abbrev okW (w:List (List UInt8)):Prop:=w.length≤1000000000000∧∀ s∈w,okS s
theorem z0q {α β:Type} {f:α→β} {l:List α} {i:Nat} {c:α} (h:l[i]? =some c):(l.map f)[i]? =some (f c):=by rw [lAM,h];rfl
theorem z0M {α:Type} {l:List α} {i:Nat} (h:i<l.length):∃ c,l[i]? =some c:=⟨l[i],lAG h⟩
theorem z2R {α:Type} {p:α→Bool} {l:List α} {i:Nat} {c:α} (h:l[i]? =some c) (hp:p c=true):l.any p=true:=lA3.2 ⟨c,lAF h,hp⟩
theorem c74 (s:List UInt8) (hs:okS s) (H:z0B):z0D PP 89 [.str s] H (z1A H (.bool (!z4Q s))):=by
 refine z0D.gives (zYF.c1 z0R mixed rfl ?_)
 refine z0E ?_
 refine z0H rfl (c75 s hs _) ?_
 refine z0E ?_
 exact fr
def zUh:Option Nat→Int
 | some i=>i
 | none=>-1
theorem c137 {v:AV} {w:List (List UInt8)} (hv:Sl 1 v (w.map .str)) (hw:w.length≤1000000000000) {g:FuncId} {fs cs:List AV} {p:List UInt8→Bool} (hg:hasBody PP g=true)
  (hp:∀ s∈w,∀ H,z0D PP g (fs++[.str s]++cs) H (z1A H (.bool (p s)))) (H:z0B) :
  z0D PP 157 [v,.clo (.func g) fs cs] H (z1A H (.int .i64 (zUh (w.findIdx? p)))):=by
 have hl:(w.map AV.str).length=w.length:=lAE _
 refine z0D.gives (zUM.c2 z0R mixed rfl ?_)
 refine z0E ?_
 refine z0F w.length (fun i al H'=>al=[(0,v),(1,.clo (.func g) fs cs),(7,.int .i64 (w.map AV.str).length),(8,.int .i64 i)]∧H'=H++[]∧∀ k c,k<i→w[k]? =some c→p c=false) ⟨rfl,rfl,by omega⟩ ?_
 rintro i _ _ hi ⟨rfl,rfl,hb⟩
 refine z0E ?_
 refine z0Q _ rfl ?_ ?_<;>intro hc
 ·simp only [lAD] at hc
  obtain ⟨c,hc⟩:=z0M (l:=w) (i:=i) (by omega)
  have hu:=z0q (f:=AV.str) hc
  refine z0E ?_
  refine z7d rfl hg (hp c (lAF hc) _) ?_
  refine z0E ?_
  refine z0Q _ rfl ?_ ?_<;>intro hpc
  ·refine z0E ?_
   have:w.findIdx? p=some i:=by
    rw [lCU]
    refine ⟨by omega,?_,?_⟩
    ·rw [lAG (by omega)] at hc;injection hc with hc;rw [hc];exact hpc
    ·intro j hj;rw [hb j _ hj (lAG (by omega))];simp
   rw [this]
   exact fr
  ·refine z0E ?_
   refine ⟨by omega,rfl,rfl,?_⟩
   intro k d hk hd
   rcases lC1.1 hk with h | h
   ·exact hb k d h hd
   ·subst h;rw [hc] at hd;injection hd with hd;rw [←hd];exact hpc
 ·simp only [lAC] at hc
  refine z0E ?_
  have:w.findIdx? p=none:=by
   rw [lDE]
   intro x hx
   obtain ⟨k,hk,rfl⟩:=lC6 hx
   exact hb k _ (by omega) (lAG hk)
  rw [this]
  exact fr
theorem zDL {α:Type} {p:α→Bool} (l:List α):decide (zUh (l.findIdx? p)≥0)=l.any p:=by
 cases h:l.findIdx? p with
 | none =>
  rw [lDE] at h
  have:l.any p=false:=by rw [lBV];intro x hx;rw [h x hx];simp
  rw [this];rfl
 | some i =>
  rw [lCU] at h
  obtain ⟨hi,hp,_⟩:=h
  have:l.any p=true:=lA3.2 ⟨_,lBT hi,hp⟩
  rw [this];simp [zUh]
theorem c72 {v:AV} {w:List (List UInt8)} (hv:Sl 1 v (w.map .str)) (hw:w.length≤1000000000000) {g:FuncId} {fs cs:List AV} {p:List UInt8→Bool} (hg:hasBody PP g=true)
  (hp:∀ s∈w,∀ H,z0D PP g (fs++[.str s]++cs) H (z1A H (.bool (p s)))) (H:z0B) :
  z0D PP 86 [v,.clo (.func g) fs cs] H (z1A H (.bool (w.any p))):=by
 refine z0D.gives (is86.c2 z0R mixed rfl ?_)
 refine z0E ?_
 refine z0H rfl (c137 hv hw hg hp _) ?_
 refine z0E ?_
 rw [zDL]
 exact fr
def z1N (w:List (List UInt8)):Int:=if decide ((w.length:Int)>60)||w.any z1Y then 3 else if w.any (fun s=>!z4Q s) then 1 else 0
theorem b73:hasBody PP 87=true:=zYG.hasBody
theorem b74:hasBody PP 89=true:=zYF.hasBody
theorem c38 {v:AV} {w:List (List UInt8)} (hv:Sl 1 v (w.map .str)) (hw:okW w) (H:z0B):z0D PP 40 [v] H (z1A H (.int .i64 (z1N w))):=by
 have hl:(w.map AV.str).length=w.length:=lAE _
 have k73:=c72 hv hw.1 (fs:=[]) (cs:=[]) b73 (p:=z1Y) (fun s _ H=>c73 s H)
 have k74:=c72 hv hw.1 (fs:=[]) (cs:=[]) b74 (p:=fun s=>!z4Q s) (fun s h H=>c74 s (hw.2 s h) H)
 have e0:decide (((w.map AV.str).length:Int)>60)=decide ((w.length:Int)>60):=by rw [hl]
 refine z0D.gives (is40.c1 z0R mixed rfl ?_)
 refine z0E ?_
 rw [e0]
 cases h1:decide ((w.length:Int)>60)
 ·refine z0E ?_
  refine z0H rfl (k73 _) ?_
  refine z0E ?_
  cases h2:w.any z1Y
  ·refine z0E ?_
   refine z0H rfl (k74 _) ?_
   refine z0E ?_
   cases h3:w.any (fun s=>!z4Q s)
   ·refine z0E ?_
    rw [show z1N w=0 by simp only [z1N,h1,h2,h3];rfl]
    exact fr
   ·refine z0E ?_
    rw [show z1N w=1 by simp only [z1N,h1,h2,h3];rfl]
    exact fr
  ·refine z0E ?_
   rw [show z1N w=3 by simp only [z1N,h1,h2];rfl]
   exact fr
 ·refine z0E ?_
  rw [show z1N w=3 by simp only [z1N,h1];rfl]
  exact fr
def z2X (s:List UInt8):Bool:=!(s.any zDj)&&(decide ((s.length:Int)≥1)&&decide ((s.length:Int)≤16))
theorem c142 (s:List UInt8) (hs:okS s) (H:z0B):z0D PP 172 [.str s] H (z1A H (.bool (z2X s))):=by
 refine z0D.gives (zUA.c1 z0R mixed rfl ?_)
 refine z0E ?_
 refine z0F s.length (fun i al H'=>al=[(0,.str s),(3,.int .i64 i)]∧H'=H++[]∧(s.take i).any zDj=false) ⟨rfl,rfl,by simp⟩ ?_
 rintro i _ _ hi ⟨rfl,rfl,hb⟩
 refine z0E ?_
 refine z0Q _ rfl ?_ ?_<;>intro hc
 ·simp only [lAD] at hc
  obtain ⟨c,hc⟩:=z0M (l:=s) (i:=i) (by omega)
  have hbad:zDj c=true→z2X s=false:=by
   intro h
   have:s.any zDj=true:=z2R hc h
   simp [z2X,this]
  refine z0E ?_
  cases h1:decide ((c.toNat:Int)<33)
  ·refine z0E ?_
   cases h2:decide ((c.toNat:Int)>126)
   ·refine z0E ?_
    cases h3:((c.toNat:Int)==60)
    ·refine z0E ?_
     cases h4:((c.toNat:Int)==62)
     ·refine z0E ?_
      refine ⟨by omega,rfl,rfl,?_⟩
      rw [z0r hc,hb];simp [zDj,h1,h2,h3,h4]
     ·refine z0E ?_
      rw [hbad (by simp [zDj,h1,h2,h3,h4])]
      exact fr
    ·refine z0E ?_
     rw [hbad (by simp [zDj,h1,h2,h3])]
     exact fr
   ·refine z0E ?_
    rw [hbad (by simp [zDj,h1,h2])]
    exact fr
  ·refine z0E ?_
   rw [hbad (by simp [zDj,h1])]
   exact fr
 ·simp only [lAC] at hc
  have:i=s.length:=by omega
  subst this
  rw [lAW] at hb
  refine z0E ?_
  cases h1:decide ((s.length:Int)≥1)
  ·refine z0E ?_
   have:z2X s=false:=by simp only [z2X,h1];simp
   rw [this]
   exact fr
  ·refine z0E ?_
   have:z2X s=decide ((s.length:Int)≤16):=by simp only [z2X,hb,h1];simp
   rw [this]
   exact fr
theorem c83 {v:AV} {w:List (List UInt8)} (hv:Sl 1 v (w.map .str)) (hw:okW w) (H:z0B):z0D PP 107 [v] H (z1A H (.bool (w.any z1Y))):=by
 have hl:(w.map AV.str).length=w.length:=lAE _
 have hN:=hw.1
 refine z0D.gives (zUc.c1 z0R mixed rfl ?_)
 refine z0E ?_
 refine z0F w.length (fun i al H'=>al=[(0,v),(3,.int .i64 i)]∧H'=H++[]∧(w.take i).any z1Y=false) ⟨rfl,rfl,by simp⟩ ?_
 rintro i _ _ hi ⟨rfl,rfl,hb⟩
 refine z0E ?_
 refine z0Q _ rfl ?_ ?_<;>intro hc
 ·simp only [lAD] at hc
  obtain ⟨c,hc⟩:=z0M (l:=w) (i:=i) (by omega)
  have hu:=z0q (f:=AV.str) hc
  refine z0E ?_
  refine z0Q _ rfl ?_ ?_<;>intro h1
  ·refine z0E ?_
   rw [z2R hc (p:=z1Y) h1]
   exact fr
  ·refine z0E ?_
   refine ⟨by omega,rfl,rfl,?_⟩
   rw [z0r hc,hb];simpa [z1Y] using h1
 ·simp only [lAC] at hc
  have:i=w.length:=by omega
  subst this
  rw [lAW] at hb
  refine z0E ?_
  rw [hb]
  exact fr
theorem c84 {v:AV} {w:List (List UInt8)} (hv:Sl 1 v (w.map .str)) (hw:okW w) (H:z0B):z0D PP 108 [v] H (z1A H (.bool (!(w.any fun s=>!z2X s)))):=by
 have hl:(w.map AV.str).length=w.length:=lAE _
 have hN:=hw.1
 refine z0D.gives (zUb.c1 z0R mixed rfl ?_)
 refine z0E ?_
 refine z0F w.length (fun i al H'=>al=[(0,v),(3,.int .i64 i)]∧H'=H++[]∧((w.take i).any fun s=>!z2X s)=false) ⟨rfl,rfl,by simp⟩ ?_
 rintro i _ _ hi ⟨rfl,rfl,hb⟩
 refine z0E ?_
 refine z0Q _ rfl ?_ ?_<;>intro hc
 ·simp only [lAD] at hc
  obtain ⟨c,hc⟩:=z0M (l:=w) (i:=i) (by omega)
  have hu:=z0q (f:=AV.str) hc
  refine z0E ?_
  refine z0H rfl (c142 c (hw.2 c (lAF hc)) _) ?_
  refine z0E ?_
  refine z0Q _ rfl ?_ ?_<;>intro h1
  ·refine z0E ?_
   rw [z2R hc (p:=fun s=>!z2X s) h1]
   exact fr
  ·refine z0E ?_
   refine ⟨by omega,rfl,rfl,?_⟩
   rw [z0r hc,hb];simpa using h1
 ·simp only [lAC] at hc
  have:i=w.length:=by omega
  subst this
  rw [lAW] at hb
  refine z0E ?_
  rw [hb]
  exact fr
theorem zEP {s:List UInt8} (h:z1Y s=false):z2X s=z4Q s:=by
 unfold z2X z4Q
 simp only [z1Y,lAC] at h
 have h2:decide ((s.length:Int)≤16)=true:=by simp;omega
 have h1:decide ((s.length:Int)≥1) = !(s==[]):=by
  cases s with
  | nil=>rfl
  | cons a l=>simp;omega
 rw [h1,h2,Bool.and_true]
theorem c42 {v:AV} {w:List (List UInt8)} (hv:Sl 1 v (w.map .str)) (hw:okW w) (H:z0B):z0D PP 61 [v] H (z1A H (.int .i64 (z1N w))):=by
 have hl:(w.map AV.str).length=w.length:=lAE _
 have e0:decide (((w.map AV.str).length:Int)>60)=decide ((w.length:Int)>60):=by rw [hl]
 refine z0D.gives (is61.c1 z0R mixed rfl ?_)
 refine z0E ?_
 rw [e0]
 cases h1:decide ((w.length:Int)>60)
 ·refine z0E ?_
  refine z0H rfl (c83 hv hw _) ?_
  refine z0E ?_
  cases h2:w.any z1Y
  ·refine z0E ?_
   refine z0H rfl (c84 hv hw _) ?_
   refine z0E ?_
   have e:(w.any fun s=>!z2X s)=w.any fun s=>!z4Q s:=by
    apply lB6.2
    simp only [lA3]
    rw [lBV] at h2
    constructor
    ·rintro ⟨s,hs,h⟩;exact ⟨s,hs,by rw [←zEP (by simpa using h2 s hs)];exact h⟩
    ·rintro ⟨s,hs,h⟩;exact ⟨s,hs,by rw [zEP (by simpa using h2 s hs)];exact h⟩
   rw [e]
   cases h3:w.any (fun s=>!z4Q s)
   ·refine z0E ?_
    rw [show z1N w=0 by simp only [z1N,h1,h2,h3];rfl]
    exact fr
   ·refine z0E ?_
    rw [show z1N w=1 by simp only [z1N,h1,h2,h3];rfl]
    exact fr
  ·refine z0E ?_
   rw [show z1N w=3 by simp only [z1N,h1,h2];rfl]
   exact fr
 ·refine z0E ?_
  rw [show z1N w=3 by simp only [z1N,h1];rfl]
  exact fr
inductive Ex where
 | mk (op:Int) (s:List UInt8) (nl:Bool) (l:List Ex)
mutual
def enc:Ex→AV
 | .mk op s nl l=>.agg [.int .i64 op,.str s,if nl&&l.isEmpty then .nilslice else .list 3 (zXd l)]
def zXd:List Ex→List AV
 | []=>[]
 | x::xs=>enc x::zXd xs
end
theorem zJC:∀ l:List Ex,zXd l=l.map enc
 | []=>rfl
 | x::xs=>by simp only [zXd,zJC xs,lA6]
def lst (nl:Bool) (l:List Ex):AV:=if nl&&l.isEmpty then .nilslice else .list 3 (l.map enc)
theorem z0a (op:Int) (s:List UInt8) (nl:Bool) (l:List Ex):enc (.mk op s nl l)=.agg [.int .i64 op,.str s,lst nl l]:=by
 simp only [enc,lst,zJC]
theorem z4h (nl:Bool) (l:List Ex):Sl 3 (lst nl l) (l.map enc):=by
 unfold lst
 cases l with
 | nil=>cases nl<;>first | exact .nil | exact .list []
 | cons x xs=>simp only [List.isEmpty_cons,Bool.and_false,lAV,if_false];exact .list _
theorem zBs (nl:Bool) (l:List Ex):AV.scalar (lst nl l)=true:=by
 unfold lst;split<;>rfl
theorem z7R {op:Int} {s:List UInt8} {nl:Bool} {l:List Ex}:([.int .i64 op,.str s,lst nl l]:List AV).all AV.scalar=true:=by
 simp only [lB4,zBs,List.all_nil];rfl
theorem zFV (e:Ex):∃ a b c,enc e=.agg [a,b,c]:=by cases e;exact ⟨_,_,_,z0a ..⟩
mutual
def Ex.size:Ex→Nat
 | .mk _ _ _ l=>1+z0V l
def z0V:List Ex→Nat
 | []=>0
 | x::xs=>x.size+z0V xs
end
theorem z4j {l:List Ex} {i:Nat} {x:Ex} (h:l[i]? =some x):z0V (l.take (i+1))=z0V (l.take i)+x.size:=by
 induction l generalizing i with
 | nil=>simp at h
 | cons y ys ih =>
  cases i with
  | zero=>simp at h;subst h;simp [z0V]
  | succ i=>simp only [lBQ,z0V];rw [ih (by simpa using h)];omega
theorem z6N:∀ (l:List Ex) (i:Nat),z0V (l.take i)≤z0V l
 | [],i=>by simp
 | x::xs,0=>by simp [z0V]
 | x::xs,i+1=>by simp only [lBQ,z0V];have:=z6N xs i;omega
theorem zHN {l:List Ex} {x:Ex} (h:x∈l):x.size≤z0V l:=by
 obtain ⟨i,hi,rfl⟩:=lC6 h
 have h1:=z4j (lAG hi)
 have h2:=z6N l (i+1)
 omega
theorem z1H:∀ l:List Ex,l.length≤z0V l
 | []=>by simp [z0V]
 | .mk op s nl k::xs=>by simp only [z0V,lBE,Ex.size];have:=z1H xs;omega
mutual
def Ex.deep:Ex→Nat
 | .mk _ _ _ l=>zAy l+1
def zAy:List Ex→Nat
 | []=>0
 | x::xs=>max x.deep (zAy xs)
end
theorem zCK {l:List Ex} {i:Nat} {x:Ex} (h:l[i]? =some x):zAy (l.take (i+1))=max (zAy (l.take i)) x.deep:=by
 induction l generalizing i with
 | nil=>simp at h
 | cons y ys ih =>
  cases i with
  | zero=>simp at h;subst h;simp [zAy]
  | succ i=>simp only [lBQ,zAy];rw [ih (by simpa using h)];omega
mutual
theorem zFa:∀ e:Ex,e.deep≤e.size
 | .mk op s nl l=>by simp only [Ex.deep,Ex.size];have:=z3E l;omega
theorem z3E:∀ l:List Ex,zAy l≤z0V l
 | []=>by simp [zAy,z0V]
 | x::xs=>by simp only [zAy,z0V];have:=zFa x;have:=z3E xs;omega
end
def Ext (H H':z0B):Prop:=∃ G,H'=H++G
theorem Ext.refl (H:z0B):Ext H H:=⟨[],by simp⟩
theorem Ext.app {H H':z0B} (h:Ext H H') (G:z0B):Ext H (H'++G):=by obtain ⟨G',rfl⟩:=h;exact ⟨G'++G,by rw [lA2]⟩
theorem z0W {H H':z0B} {v:AV} (h:Ext H H') (hp:z0N v):zBS H v (.ret v) H':=by obtain ⟨G,rfl⟩:=h;exact z2P hp
theorem z6g {P:Program} {c:IC} {Q:PL} {al:AL} {H:z0B} (h:WI P c Q al (H++[])):WI P c Q al H:=by rwa [lAK] at h
theorem z2s {op:Int} {s:List UInt8} {nl:Bool} {l:List Ex} {x:Ex} (h:x∈l):SizeOf.sizeOf x<SizeOf.sizeOf (Ex.mk op s nl l):=by
 have:=List.sizeOf_lt_of_mem h
 simp only [Ex.mk.sizeOf_spec];omega
theorem c85 (e:Ex) (he:e.size≤1000000000000) (H:z0B):z0D PP 168 [enc e] H (z1A H (.int .i64 e.size)):=by
 match e,he with
 | .mk op s nl l,he =>
  have hs:=z4h nl l
  have hl:(l.map enc).length=l.length:=lAE _
  have he':1+z0V l≤1000000000000:=by simpa only [Ex.size] using he
  have hll:=z1H l
  rw [z0a]
  refine z0D.gives (zUE.c1 z0R mixed rfl ?_)
  refine z0E ?_
  refine z0F l.length (fun i al H'=>al=[(1,.ptr (H.length+0) 0),(3,.int .i64 (1+z0V (l.take i):Nat)),(4,.int .i64 i)]∧Ext H H'∧H'[H.length+0]? =some (.cells [.int .i64 op,.str s,lst nl l]))
   ⟨rfl,⟨_,rfl⟩,z1R⟩ ?_
  rintro i _ H1 hi ⟨rfl,hx,hb⟩
  refine z0E ?_
  refine z0Q _ rfl ?_ ?_<;>intro hc
  ·simp only [lAD] at hc
   obtain ⟨c,hc⟩:=z0M (l:=l) (i:=i) (by omega)
   have hu:=z0q (f:=enc) hc
   have hm:=lAF hc
   have hsz:=zHN hm
   have h1:=z4j hc
   have h2:=z6N l (i+1)
   obtain ⟨op',s',nl',l'⟩:=c
   rw [z0a] at hu
   have ih:=c85 (.mk op' s' nl' l') (by omega) H1
   rw [z0a] at ih
   refine z0E ?_
   refine z0H rfl ih ?_
   refine z2A rfl rfl (by omega) ?_
   refine z0E ?_
   refine ⟨by omega,?_,hx,hb⟩
   rw [h1,lBK];rfl
  ·simp only [lAC] at hc
   have:i=l.length:=by omega
   subst this
   rw [lAW]
   refine z0E ?_
   exact z0Y rfl (z0W hx (z0N.int _ _))
termination_by SizeOf.sizeOf e
decreasing_by subst_vars;exact z2s (by assumption)
theorem c76 (e:Ex) (he:e.size≤1000000000000) (H:z0B):z0D PP 135 [enc e] H (z1A H (.int .i64 e.size)):=by
 match e,he with
 | .mk op s nl l,he =>
  have hs:=z4h nl l
  have hl:(l.map enc).length=l.length:=lAE _
  have he':1+z0V l≤1000000000000:=by simpa only [Ex.size] using he
  have hll:=z1H l
  rw [z0a]
  refine z0D.gives (zUU.c1 z0R mixed rfl ?_)
  refine z0E ?_
  refine z0F l.length (fun i al H'=>al=[(3,.int .i64 (1+z0V (l.take i):Nat)),(7,lst nl l),(8,.int .i64 (l.map enc).length),(9,.int .i64 i)]∧Ext H H') ⟨rfl,⟨_,rfl⟩⟩ ?_
  rintro i _ H1 hi ⟨rfl,hx⟩
  refine z6g ?_
  refine z0E ?_
  refine z0Q _ rfl ?_ ?_<;>intro hc
  ·simp only [lAD] at hc
   obtain ⟨c,hc⟩:=z0M (l:=l) (i:=i) (by omega)
   have hu:=z0q (f:=enc) hc
   have hm:=lAF hc
   have hsz:=zHN hm
   have h1:=z4j hc
   have h2:=z6N l (i+1)
   obtain ⟨op',s',nl',l'⟩:=c
   rw [z0a] at hu
   have ih:=fun H=>c76 (.mk op' s' nl' l') (by omega) H
   simp only [z0a] at ih
   refine z0E ?_
   refine z0H rfl (ih _) ?_
   refine z2A rfl rfl (by omega) ?_
   refine z0E ?_
   refine ⟨by omega,?_,hx.app _⟩
   rw [h1,lBK];rfl
  ·simp only [lAC] at hc
   have:i=l.length:=by omega
   subst this
   rw [lAW]
   refine z0E ?_
   exact z0Y rfl (z0W (hx.app _) (z0N.int _ _))
termination_by SizeOf.sizeOf e
decreasing_by subst_vars;exact z2s (by assumption)
mutual
def Ex.w:Ex→Nat
 | .mk _ s _ l=>1+s.length+ws l
def ws:List Ex→Nat
 | []=>0
 | x::xs=>x.w+ws xs
end
theorem zDk:∀ {l:List Ex} {x:Ex},x∈l→x.w≤ws l
 | y::ys,x,h=>by
  simp only [ws]
  rcases lAT.1 h with rfl | h
  ·omega
  ·have:=zDk h;omega
mutual
theorem zLP:∀ e:Ex,e.size≤e.w
 | .mk op s nl l=>by simp only [Ex.size,Ex.w];have:=z7e l;omega
theorem z7e:∀ l:List Ex,z0V l≤ws l
 | []=>by simp [ws,z0V]
 | x::xs=>by simp only [ws,z0V];have:=zLP x;have:=z7e xs;omega
end
abbrev okE (e:Ex):Prop:=e.w≤1000000000000
theorem z5J {op:Int} {s:List UInt8} {nl:Bool} {l:List Ex} (h:okE (.mk op s nl l)) {x:Ex} (hx:x∈l):okE x:=by
 unfold okE at h ⊢;simp only [Ex.w] at h;have:=zDk hx;omega
theorem zTD {op:Int} {s:List UInt8} {nl:Bool} {l:List Ex} (h:okE (.mk op s nl l)):okS s:=by
 unfold okE at h;simp only [Ex.w] at h;unfold okS;omega
theorem zCz {op:Int} {s:List UInt8} {nl:Bool} {l:List Ex} (h:okE (.mk op s nl l)):l.length≤1000000000000:=by
 unfold okE at h;simp only [Ex.w] at h;have:=z1H l;have:=z7e l;omega
theorem c86 (e:Ex) (he:okE e) (H:z0B):z0D PP 169 [enc e] H (z1A H (.int .i64 e.deep)):=by
 match e,he with
 | .mk op s nl l,he =>
  have hs:=z4h nl l
  have hl:(l.map enc).length=l.length:=lAE _
  have hll:=zCz he
  have hd:=z3E l
  have hw:=z7e l
  have hwl:ws l≤1000000000000:=by unfold okE at he;simp only [Ex.w] at he;omega
  rw [z0a]
  refine z0D.gives (zUD.c1 z0R mixed rfl ?_)
  refine z0E ?_
  refine z0F l.length (fun i al H'=>al=[(1,.ptr (H.length+0) 0),(3,.int .i64 (zAy (l.take i):Nat)),(4,.int .i64 i)]∧Ext H H'∧H'[H.length+0]? =some (.cells [.int .i64 op,.str s,lst nl l]))
   ⟨rfl,⟨_,rfl⟩,z1R⟩ ?_
  rintro i _ H1 hi ⟨rfl,hx,hb⟩
  refine z0E ?_
  refine z0Q _ rfl ?_ ?_<;>intro hc
  ·simp only [lAD] at hc
   obtain ⟨c,hc⟩:=z0M (l:=l) (i:=i) (by omega)
   have hu:=z0q (f:=enc) hc
   have hm:=lAF hc
   have h1:=zCK hc
   obtain ⟨op',s',nl',l'⟩:=c
   rw [z0a] at hu
   have ih:=c86 (.mk op' s' nl' l') (z5J he hm) H1
   rw [z0a] at ih
   refine z0E ?_
   refine z0H rfl ih ?_
   refine zLH rfl rfl ?_
   refine z0E ?_
   refine ⟨by omega,?_,hx,hb⟩
   rw [h1];rfl
  ·simp only [lAC] at hc
   have:i=l.length:=by omega
   subst this
   rw [lAW]
   refine z0E ?_
   exact z0Y rfl (z0W hx (z0N.int _ _))
termination_by SizeOf.sizeOf e
decreasing_by subst_vars;exact z2s (by assumption)
theorem c77 (e:Ex) (he:okE e) (H:z0B):z0D PP 136 [enc e] H (z1A H (.int .i64 e.deep)):=by
 match e,he with
 | .mk op s nl l,he =>
  have hs:=z4h nl l
  have hl:(l.map enc).length=l.length:=lAE _
  have hll:=zCz he
  have hd:=z3E l
  have hw:=z7e l
  have hwl:ws l≤1000000000000:=by unfold okE at he;simp only [Ex.w] at he;omega
  rw [z0a]
  refine z0D.gives (zUT.c1 z0R mixed rfl ?_)
  refine z0E ?_
  refine z0F l.length (fun i al H'=>al=[(3,.int .i64 (zAy (l.take i):Nat)),(7,lst nl l),(8,.int .i64 (l.map enc).length),(9,.int .i64 i)]∧Ext H H') ⟨rfl,⟨_,rfl⟩⟩ ?_
  rintro i _ H1 hi ⟨rfl,hx⟩
  refine z6g ?_
  refine z0E ?_
  refine z0Q _ rfl ?_ ?_<;>intro hc
  ·simp only [lAD] at hc
   obtain ⟨c,hc⟩:=z0M (l:=l) (i:=i) (by omega)
   have hu:=z0q (f:=enc) hc
   have hm:=lAF hc
   have h1:=zCK hc
   obtain ⟨op',s',nl',l'⟩:=c
   rw [z0a] at hu
   have ih:=fun H=>c77 (.mk op' s' nl' l') (z5J he hm) H
   simp only [z0a] at ih
   refine z0E ?_
   refine z0H rfl (ih _) ?_
   refine zLH rfl rfl ?_
   refine z0E ?_
   refine ⟨by omega,?_,hx.app _⟩
   rw [h1];rfl
  ·simp only [lAC] at hc
   have:i=l.length:=by omega
   subst this
   rw [lAW]
   refine z0E ?_
   exact z0Y rfl (z0W (hx.app _) (z0N.int _ _))
termination_by SizeOf.sizeOf e
decreasing_by subst_vars;exact z2s (by assumption)
def z5X (op:Int):Int × Int × Bool :=
 if op=0∨op=1∨op=2∨op=3 then (0,0,true) else if op=8∨op=9∨op=10∨op=11∨op=12 then (1,1,true) else
 if op=7∨op=13∨op=15 then (2,2,true) else if op=14 then (3,3,true) else if op=4∨op=5∨op=6 then (2,-1,true) else (0,0,false)
theorem zGJ (op:Int):(op=0∨op=1∨op=2∨op=3∨op=4∨op=5∨op=6∨op=7∨op=8∨op=9∨op=10∨op=11∨op=12∨op=13∨op=14∨op=15)∨(op<0∨15<op):=by omega
theorem z1c {op:Int} (h:op<0∨15<op):∀ k:Nat,k≤15→(op==(k:Int))=false:=by
 intro k hk;simp;omega
theorem c138 (op:Int) (H:z0B):z0D PP 190 [.int .i64 op] H (z1A H (.tuple [.int .i64 (z5X op).1,.int .i64 (z5X op).2.1,.bool (z5X op).2.2])):=by
 have hp:∀ a b c,z0N (.tuple [.int .i64 a,.int .i64 b,.bool c]):=fun a b c=>⟨3,rfl⟩
 refine z0D.gives (zTx.c1 z0R mixed rfl ?_)
 rcases zGJ op with h | h
 ·rcases h with rfl | rfl | rfl | rfl | rfl | rfl | rfl | rfl | rfl | rfl | rfl | rfl | rfl | rfl | rfl | rfl <;>
  ·refine z0E ?_
   exact z0Y rfl (z2P (hp _ _ _))
 ·have h0:(op==0)=false:=z1c h 0 (by omega)
  have h1:(op==1)=false:=z1c h 1 (by omega)
  have h2:(op==2)=false:=z1c h 2 (by omega)
  have h3:(op==3)=false:=z1c h 3 (by omega)
  have h4:(op==4)=false:=z1c h 4 (by omega)
  have h5:(op==5)=false:=z1c h 5 (by omega)
  have h6:(op==6)=false:=z1c h 6 (by omega)
  have h7:(op==7)=false:=z1c h 7 (by omega)
  have h8:(op==8)=false:=z1c h 8 (by omega)
  have h9:(op==9)=false:=z1c h 9 (by omega)
  have h10:(op==10)=false:=z1c h 10 (by omega)
  have h11:(op==11)=false:=z1c h 11 (by omega)
  have h12:(op==12)=false:=z1c h 12 (by omega)
  have h13:(op==13)=false:=z1c h 13 (by omega)
  have h14:(op==14)=false:=z1c h 14 (by omega)
  have h15:(op==15)=false:=z1c h 15 (by omega)
  have e:z5X op=(0,0,false):=by
   unfold z5X
   rw [if_neg (by omega),if_neg (by omega),if_neg (by omega),if_neg (by omega),if_neg (by omega)]
  rw [e]
  refine z0E ?_
  exact z0Y rfl (z2P (hp _ _ _))
theorem c141 {v:AV} {w:List Ex} (hv:Sl 3 v (w.map enc)) (hw:w.length≤1000000000000) {g:FuncId} {fs cs:List AV} {p:Ex→Bool} (hg:hasBody PP g=true)
  (hp:∀ s∈w,∀ H,z0D PP g (fs++[enc s]++cs) H (z1A H (.bool (p s)))) (H:z0B) :
  z0D PP 193 [v,.clo (.func g) fs cs] H (z1A H (.int .i64 (zUh (w.findIdx? p)))):=by
 have hl:(w.map enc).length=w.length:=lAE _
 refine z0D.gives (zTv.c2 z0R mixed rfl ?_)
 refine z0E ?_
 refine z0F w.length (fun i al H'=>al=[(0,v),(1,.clo (.func g) fs cs),(7,.int .i64 (w.map enc).length),(8,.int .i64 i)]∧H'=H++[]∧∀ k c,k<i→w[k]? =some c→p c=false) ⟨rfl,rfl,by omega⟩ ?_
 rintro i _ _ hi ⟨rfl,rfl,hb⟩
 refine z0E ?_
 refine z0Q _ rfl ?_ ?_<;>intro hc
 ·simp only [lAD] at hc
  obtain ⟨c,hc⟩:=z0M (l:=w) (i:=i) (by omega)
  have hu:=z0q (f:=enc) hc
  have hpc':=hp c (lAF hc)
  have hpp:∀ k d,k<i+1→w[k]? =some d→p c=false→p d=false:=by
   intro k d hk hd hpc
   rcases lC1.1 hk with h | h
   ·exact hb k d h hd
   ·subst h;rw [hc] at hd;injection hd with hd;rw [←hd];exact hpc
  have hfi:p c=true→w.findIdx? p=some i:=by
   intro hpc
   rw [lCU]
   refine ⟨by omega,?_,?_⟩
   ·rw [lAG (by omega)] at hc;injection hc with hc;rw [hc];exact hpc
   ·intro j hj;rw [hb j _ hj (lAG (by omega))];simp
  generalize p c=q at hpc' hpp hfi
  obtain ⟨op',s',nl',l'⟩:=c
  rw [z0a] at hu
  simp only [z0a] at hpc'
  refine z0E ?_
  refine z7d rfl hg (hpc' _) ?_
  refine z0E ?_
  refine z0Q _ rfl ?_ ?_<;>intro hpc
  ·refine z0E ?_
   rw [hfi hpc]
   exact fr
  ·refine z0E ?_
   exact ⟨by omega,rfl,rfl,fun k d hk hd=>hpp k d hk hd hpc⟩
 ·simp only [lAC] at hc
  refine z0E ?_
  have:w.findIdx? p=none:=by
   rw [lDE]
   intro x hx
   obtain ⟨k,hk,rfl⟩:=lC6 hx
   exact hb k _ (by omega) (lAG hk)
  rw [this]
  exact fr
theorem c82 {v:AV} {w:List Ex} (hv:Sl 3 v (w.map enc)) (hw:w.length≤1000000000000) {g:FuncId} {fs cs:List AV} {p:Ex→Bool} (hg:hasBody PP g=true)
  (hp:∀ s∈w,∀ H,z0D PP g (fs++[enc s]++cs) H (z1A H (.bool (p s)))) (H:z0B) :
  z0D PP 141 [v,.clo (.func g) fs cs] H (z1A H (.bool (w.any p))):=by
 refine z0D.gives (zUP.c2 z0R mixed rfl ?_)
 refine z0E ?_
 refine z0H rfl (c141 hv hw hg hp _) ?_
 refine z0E ?_
 rw [zDL]
 exact fr
def z6n (op:Int):Bool:=(op==15)||(op==13)
mutual
def Ex.odd:Ex→Bool
 | .mk op _ _ l=>z6n op||zPQ l
def zPQ:List Ex→Bool
 | []=>false
 | x::xs=>x.odd||zPQ xs
end
theorem zDA:∀ l:List Ex,zPQ l=l.any Ex.odd
 | []=>rfl
 | x::xs=>by simp only [zPQ,List.any_cons,zDA xs]
theorem c41 (e:Ex) (he:okE e) (H:z0B):z0D PP 76 [enc e] H (z1A H (.bool e.odd)):=by
 match e,he with
 | .mk op s nl l,he =>
  have hs:=z4h nl l
  have hp:∀ x∈l,∀ H,z0D PP 76 ([]++[enc x]++[]) H (z1A H (.bool (x.odd))):=fun x hx H=>c41 x (z5J he hx) H
  have k:=fun H=>c82 hs (zCz he) (fs:=[]) (cs:=[]) zYH.hasBody hp H
  rw [z0a]
  refine z0D.gives (zYH.c1 z0R mixed rfl ?_)
  refine z0E ?_
  cases h1:(op==15)
  ·refine z0E ?_
   cases h2:(op==13)
   ·refine z0E ?_
    refine z0H rfl (k _) ?_
    refine z0E ?_
    rw [show (Ex.mk op s nl l).odd=l.any Ex.odd by simp only [Ex.odd,z6n,h1,h2,zDA,lCL]]
    exact fr
   ·refine z0E ?_
    rw [show (Ex.mk op s nl l).odd=true by simp only [Ex.odd,z6n,h1,h2];rfl]
    exact fr
  ·refine z0E ?_
   rw [show (Ex.mk op s nl l).odd=true by simp only [Ex.odd,z6n,h1];rfl]
   exact fr
termination_by SizeOf.sizeOf e
decreasing_by exact z2s (by assumption)
theorem c44 (e:Ex) (he:okE e) (H:z0B):z0D PP 105 [enc e] H (z1A H (.bool e.odd)):=by
 match e,he with
 | .mk op s nl l,he =>
  have hs:=z4h nl l
  have hl:(l.map enc).length=l.length:=lAE _
  have hll:=zCz he
  rw [z0a]
  refine z0D.gives (zUe.c1 z0R mixed rfl ?_)
  have rest:(op==15)=false→(op==13)=false→(Ex.mk op s nl l).odd=l.any Ex.odd:=by
   intro h1 h2;simp only [Ex.odd,z6n,h1,h2,zDA,lCL]
  refine z0E ?_
  cases h1:(op==15)
  ·refine z0E ?_
   cases h2:(op==13)
   ·rw [rest h1 h2]
    refine z0E ?_
    refine z0F l.length (fun i al H'=>al=[(1,.ptr (H.length+0) 0),(3,.int .i64 i)]∧Ext H H'∧H'[H.length+0]? =some (.cells [.int .i64 op,.str s,lst nl l])∧(l.take i).any Ex.odd=false)
     ⟨rfl,⟨_,rfl⟩,z1R,by simp⟩ ?_
    rintro i _ H1 hi ⟨rfl,hx,hb,hod⟩
    refine z0E ?_
    refine z0Q _ rfl ?_ ?_<;>intro hc
    ·simp only [lAD] at hc
     obtain ⟨c,hc⟩:=z0M (l:=l) (i:=i) (by omega)
     have hu:=z0q (f:=enc) hc
     have hm:=lAF hc
     have ht:=z0r (p:=Ex.odd) hc
     have hany:=z2R (p:=Ex.odd) hc
     obtain ⟨op',s',nl',l'⟩:=c
     rw [z0a] at hu
     have ih:=c44 (.mk op' s' nl' l') (z5J he hm) H1
     rw [z0a] at ih
     refine z0E ?_
     refine z0H rfl ih ?_
     refine z0E ?_
     refine z0Q _ rfl ?_ ?_<;>intro hq
     ·rw [hany hq]
      refine z0E ?_
      exact z0Y rfl (z0W hx (z0N.bool _))
     ·refine z0E ?_
      refine ⟨by omega,rfl,hx,hb,?_⟩
      rw [ht,hod,hq];rfl
    ·simp only [lAC] at hc
     have:i=l.length:=by omega
     subst this
     rw [lAW] at hod
     rw [hod]
     refine z0E ?_
     exact z0Y rfl (z0W hx (z0N.bool _))
   ·refine z0E ?_
    rw [show (Ex.mk op s nl l).odd=true by simp only [Ex.odd,z6n,h1,h2];rfl]
    exact fr
  ·refine z0E ?_
   rw [show (Ex.mk op s nl l).odd=true by simp only [Ex.odd,z6n,h1];rfl]
   exact fr
termination_by SizeOf.sizeOf e
decreasing_by subst_vars;exact z2s (by assumption)
def z2t (k:Int × Int × Bool) (op:Int) (s:List UInt8) (n:Nat):Bool :=
 !k.2.2||decide ((n:Int)<k.1)||(decide (k.2.1≥0)&&decide ((n:Int)>k.2.1))||((op != 0) && !(s==[]))
def z6s (op:Int) (s:List UInt8):Bool:=(op==0)&&(z1N [s] != 0)
mutual
def Ex.right:Ex→Bool
 | .mk op s _ l=>!z2t (z5X op) op s l.length && !z6s op s&&z5p l
def z5p:List Ex→Bool
 | []=>true
 | x::xs=>x.right&&z5p xs
end
theorem zBt:∀ l:List Ex,(!(l.any fun x=>!x.right))=z5p l
 | []=>rfl
 | x::xs=>by simp only [z5p,List.any_cons,←zBt xs,Bool.not_or,Bool.not_not]
theorem c139 {e:Ex} {b:Bool} (h:∀ H,z0D PP 137 [enc e] H (z1A H (.bool b))) (H:z0B):z0D PP 191 [enc e] H (z1A H (.bool (!b))):=by
 obtain ⟨op,s,nl,l⟩:=e
 rw [z0a] at h ⊢
 refine z0D.gives (zRn.c1 z0R mixed rfl ?_)
 refine z0E ?_
 refine z0H rfl (h _) ?_
 refine z0E ?_
 exact fr
theorem okW1 {s:List UInt8} (h:okS s):okW [s]:=⟨by simp,fun x hx=>by rw [lA1] at hx;subst hx;exact h⟩
theorem c78 (e:Ex) (he:okE e) (H:z0B):z0D PP 137 [enc e] H (z1A H (.bool e.right)):=by
 match e,he with
 | .mk op s nl l,he =>
  have hs:=z4h nl l
  have hl:(l.map enc).length=l.length:=lAE _
  have hp:∀ x∈l,∀ H,z0D PP 191 ([]++[enc x]++[]) H (z1A H (.bool (!x.right))):=fun x hx H=>c139 (fun H=>c78 x (z5J he hx) H) H
  have k82:=fun H=>c82 hs (zCz he) (fs:=[]) (cs:=[]) zRn.hasBody hp H
  have k38:=fun H=>c38 (w:=[s]) (.list _) (okW1 (zTD he)) H
  have hr:(Ex.mk op s nl l).right=(!z2t (z5X op) op s l.length && !z6s op s && !(l.any fun x=>!x.right)):=by rw [zBt];rfl
  have hbn:∀ k,z2t k op s l.length=z2t k op s (l.map enc).length:=fun k=>by rw [hl]
  rw [z0a,hr,hbn]
  refine z0D.gives (zUS.c1 z0R mixed rfl ?_)
  refine z0E ?_
  refine z0H rfl (c138 op _) ?_
  generalize z5X op=k
  obtain ⟨f,t,b⟩:=k
  refine z0E ?_
  refine zGy [(1,.ptr (H.length+0) 0),(42,.bool (z2t (f,t,b) op s (l.map enc).length))] (H++[.cells [.int .i64 op,.str s,lst nl l]]) ?_ ?_
  ·cases b
   ·refine z0E ?_
    exact z4V rfl rfl
   ·refine z0E ?_
    cases h2:decide (((l.map enc).length:Int)<f)
    ·have e0:∀ b,(z2t (f,t,true) op s (l.map enc).length=b↔((decide (t≥0)&&decide (((l.map enc).length:Int)>t))||((op != 0) && !(s==[])))=b):=by
      intro b;simp only [z2t,h2];simp
     refine z0E ?_
     cases h3:decide (t≥0)
     ·refine z0E ?_
      cases h5:(op != 0)
      ·refine z0E ?_
       exact z4V (by rw [(e0 false).2 (by simp only [h3,h5];rfl)];rfl) rfl
      ·refine z0E ?_
       exact z4V (by rw [(e0 (!(s==[]))).2 (by simp only [h3,h5];simp)];rfl) rfl
     ·refine z0E ?_
      cases h4:decide (((l.map enc).length:Int)>t)
      ·refine z0E ?_
       cases h5:(op != 0)
       ·refine z0E ?_
        exact z4V (by rw [(e0 false).2 (by simp only [h3,h4,h5];rfl)];rfl) rfl
       ·refine z0E ?_
        exact z4V (by rw [(e0 (!(s==[]))).2 (by simp only [h3,h4,h5];simp)];rfl) rfl
      ·refine z0E ?_
       exact z4V (by rw [(e0 true).2 (by simp only [h3,h4];simp)];rfl) rfl
    ·refine z0E ?_
     exact z4V (by rw [show z2t (f,t,true) op s (l.map enc).length=true by simp only [z2t,h2];simp];rfl) rfl
  refine zHb ?_
  refine z0Q _ rfl ?_ ?_<;>intro hb
  ·rw [hb]
   refine z0E ?_
   exact fr
  ·rw [hb]
   refine z0E ?_
   cases h1:(op==0)
   ·refine z0E ?_
    refine z0H rfl (k82 _) ?_
    refine z0E ?_
    rw [show z6s op s=false by simp only [z6s,h1];rfl]
    exact fr
   ·refine z0E ?_
    refine z7Y rfl rfl rfl ?_
    refine z5h rfl ?_
    refine zCf (n:=1) (G':=[.cells [.int .i64 op,.str s,lst nl l],.dead]) (cs:=[.str s]) (args:=[.sl (H.length+1) 0 1 1]) (args':=[.list 1 [.str s]]) ?_ ?_ ?_ (zRK (z9T (H.length+1) [s])) ?_ (k38 _) ?_
    ·rfl
    ·rfl
    ·rfl
    ·rfl
    refine z0E ?_
    refine z0Q _ rfl ?_ ?_<;>intro hv
    ·rw [show z6s op s=true by simp only [z6s,h1,hv];rfl]
     refine z0E ?_
     exact fr
    ·rw [show z6s op s=false by simp only [z6s,h1,hv];rfl]
     refine z0E ?_
     refine z0H rfl (k82 _) ?_
     refine z0E ?_
     exact fr
termination_by SizeOf.sizeOf e
decreasing_by exact z2s (by assumption)
def z5U (e:Ex):Int:=if decide ((e.size:Int)>40)||decide ((e.deep:Int)>12) then 3 else if !e.right then 1 else 0
theorem c39 (e:Ex) (he:okE e) (H:z0B):z0D PP 74 [enc e] H (z1A H (.int .i64 (z5U e))):=by
 have k76:=fun H=>c76 e (lBM (zLP e) he) H
 have k77:=fun H=>c77 e he H
 have k78:=fun H=>c78 e he H
 have hv:z5U e=if decide ((e.size:Int)>40)||decide ((e.deep:Int)>12) then 3 else if !e.right then 1 else 0:=rfl
 rw [hv]
 generalize e.size=n1 at *
 generalize e.deep=n2 at *
 generalize e.right=b at *
 obtain ⟨op,s,nl,l⟩:=e
 rw [z0a] at *
 refine z0D.gives (is74.c1 z0R mixed rfl ?_)
 refine z0E ?_
 refine z0H rfl (k76 _) ?_
 refine z0E ?_
 cases h1:decide ((n1:Int)>40)
 ·refine z0E ?_
  refine z0H rfl (k77 _) ?_
  refine z0E ?_
  cases h2:decide ((n2:Int)>12)
  ·refine z0E ?_
   refine z0H rfl (k78 _) ?_
   refine z0E ?_
   cases b
   ·refine z0E ?_
    exact fr
   ·refine z0E ?_
    exact fr
  ·refine z0E ?_
   exact fr
 ·refine z0E ?_
  exact fr
def zDF (op:Int):Int × Int :=
 if op=0∨op=1∨op=2∨op=3 then (0,0) else if op=8∨op=9∨op=10∨op=11∨op=12 then (1,1) else
 if op=7∨op=13∨op=15 then (2,2) else if op=14 then (3,3) else (2,40)
theorem c143 (op:Int) (H:z0B):z0D PP 209 [.int .i64 op] H (z1A H (.tuple [.int .i64 (zDF op).1,.int .i64 (zDF op).2])):=by
 have hp:∀ a b,z0N (.tuple [.int .i64 a,.int .i64 b]):=fun a b=>⟨3,rfl⟩
 refine z0D.gives (zTm.c1 z0R mixed rfl ?_)
 rcases zGJ op with h | h
 ·rcases h with rfl | rfl | rfl | rfl | rfl | rfl | rfl | rfl | rfl | rfl | rfl | rfl | rfl | rfl | rfl | rfl <;>
  ·refine z0E ?_
   exact z0Y rfl (z2P (hp _ _))
 ·have h0:(op==0)=false:=z1c h 0 (by omega)
  have h1:(op==1)=false:=z1c h 1 (by omega)
  have h2:(op==2)=false:=z1c h 2 (by omega)
  have h3:(op==3)=false:=z1c h 3 (by omega)
  have h7:(op==7)=false:=z1c h 7 (by omega)
  have h8:(op==8)=false:=z1c h 8 (by omega)
  have h9:(op==9)=false:=z1c h 9 (by omega)
  have h10:(op==10)=false:=z1c h 10 (by omega)
  have h11:(op==11)=false:=z1c h 11 (by omega)
  have h12:(op==12)=false:=z1c h 12 (by omega)
  have h13:(op==13)=false:=z1c h 13 (by omega)
  have h14:(op==14)=false:=z1c h 14 (by omega)
  have h15:(op==15)=false:=z1c h 15 (by omega)
  have e:zDF op=(2,40):=by
   unfold zDF
   rw [if_neg (by omega),if_neg (by omega),if_neg (by omega),if_neg (by omega)]
  rw [e]
  refine z0E ?_
  exact z0Y rfl (z2P (hp _ _))
def z1g (k:Int × Int) (op:Int) (s:List UInt8) (n:Nat):Bool :=
 decide ((n:Int)<k.1)||decide ((n:Int)>k.2)||((op != 0) && !(s==[]))||((op==0)&&(z1N [s] != 0))
def zAX (op:Int):Bool:=decide (op<0)||decide (op>15)
mutual
def Ex.right2:Ex→Bool
 | .mk op s _ l=>!zAX op && !z1g (zDF op) op s l.length&&z8b l
def z8b:List Ex→Bool
 | []=>true
 | x::xs=>x.right2&&z8b xs
end
theorem zAM:∀ l:List Ex,(!(l.any fun x=>!x.right2))=z8b l
 | []=>rfl
 | x::xs=>by simp only [z8b,List.any_cons,←zAM xs,Bool.not_or,Bool.not_not]
theorem c87 (e:Ex) (he:okE e) (H:z0B):z0D PP 170 [enc e] H (z1A H (.bool e.right2)):=by
 match e,he with
 | .mk op s nl l,he =>
  have hs:=z4h nl l
  have hl:(l.map enc).length=l.length:=lAE _
  have hll:=zCz he
  have k42:=fun H=>c42 (w:=[s]) (.list _) (okW1 (zTD he)) H
  have hr:(Ex.mk op s nl l).right2=(!zAX op && !z1g (zDF op) op s l.length && !(l.any fun x=>!x.right2)):=by rw [zAM];rfl
  have hbn:∀ k,z1g k op s l.length=z1g k op s (l.map enc).length:=fun k=>by rw [hl]
  rw [z0a,hr,hbn]
  refine z0D.gives (zUC.c1 z0R mixed rfl ?_)
  refine z0E ?_
  refine zGy [(1,.ptr (H.length+0) 0),(13,.bool (zAX op))] (H++[.cells [.int .i64 op,.str s,lst nl l]]) ?_ ?_
  ·cases h1:decide (op<0)
   ·refine z0E ?_
    exact z4V (by rw [show zAX op=decide (op>15) by simp only [zAX,h1,lCL]];rfl) rfl
   ·refine z0E ?_
    exact z4V (by rw [show zAX op=true by simp only [zAX,h1,lD5]];rfl) rfl
  refine zHb ?_
  refine z0Q _ rfl ?_ ?_<;>intro ho
  ·rw [ho]
   refine z0E ?_
   exact fr
  rw [ho]
  refine z0E ?_
  refine z0H rfl (c143 op _) ?_
  generalize zDF op=k
  obtain ⟨f,t⟩:=k
  refine z0E ?_
  refine zFm [(1,.ptr (H.length+0) 0),(53,.bool (z1g (f,t) op s (l.map enc).length))] (fun h=>Ext H h∧h[H.length+0]? =some (.cells [.int .i64 op,.str s,lst nl l])) ?_ ?_
  ·cases h1:decide (((l.map enc).length:Int)<f)
   ·refine z0E ?_
    cases h2:decide (((l.map enc).length:Int)>t)
    ·refine z0E ?_
     cases h0:(op==0)
     ·have h5:(op != 0)=true:=by simp only [bne,h0];rfl
      refine z0E ?_
      cases h6:(!(s==[]))
      ·refine z0E ?_
       exact z2D (by rw [show z1g (f,t) op s (l.map enc).length=false by simp only [z1g,h1,h2,h0,h6];simp];rfl) ⟨⟨_,rfl⟩,z1R⟩
      ·refine z0E ?_
       exact z2D (by rw [show z1g (f,t) op s (l.map enc).length=true by simp only [z1g,h5,h6];simp];rfl) ⟨⟨_,rfl⟩,z1R⟩
     ·have h5:(op != 0)=false:=by simp only [bne,h0];rfl
      refine z0E ?_
      refine z7Y rfl rfl rfl ?_
      refine z5h (congrArg AV.bool h0) ?_
      refine zCf (n:=1) (G':=[.cells [.int .i64 op,.str s,lst nl l],.dead]) (cs:=[.str s]) (args:=[.sl (H.length+1) 0 1 1]) (args':=[.list 1 [.str s]]) ?_ ?_ ?_ (zRK (z9T (H.length+1) [s])) ?_ (k42 _) ?_
      ·rfl
      ·rfl
      ·rfl
      ·rfl
      refine z0E ?_
      exact z2D (by rw [show z1g (f,t) op s (l.map enc).length=(z1N [s] != 0) by simp only [z1g,h1,h2,h0,h5];simp];rfl) ⟨⟨_,rfl⟩,z1R⟩
    ·refine z0E ?_
     exact z2D (by rw [show z1g (f,t) op s (l.map enc).length=true by simp only [z1g,h1,h2];simp];rfl) ⟨⟨_,rfl⟩,z1R⟩
   ·refine z0E ?_
    exact z2D (by rw [show z1g (f,t) op s (l.map enc).length=true by simp only [z1g,h1];simp];rfl) ⟨⟨_,rfl⟩,z1R⟩
  rintro H1 ⟨hx,hb⟩
  refine zHb ?_
  refine z0Q _ rfl ?_ ?_<;>intro hn
  ·rw [hn]
   refine z0E ?_
   exact z0Y rfl (z0W hx (z0N.bool _))
  rw [hn]
  refine z0E ?_
  refine z0F l.length (fun i al H'=>al=[(1,.ptr (H.length+0) 0),(5,.int .i64 i)]∧Ext H H'∧H'[H.length+0]? =some (.cells [.int .i64 op,.str s,lst nl l])∧((l.take i).any fun x=>!x.right2)=false)
   ⟨rfl,hx,hb,by simp⟩ ?_
  clear hx hb H1
  rintro i _ H1 hi ⟨rfl,hx,hb,hod⟩
  refine z0E ?_
  refine z0Q _ rfl ?_ ?_<;>intro hc
  ·simp only [lAD] at hc
   obtain ⟨c,hc⟩:=z0M (l:=l) (i:=i) (by omega)
   have hu:=z0q (f:=enc) hc
   have hm:=lAF hc
   have ht:=z0r (p:=fun x:Ex=>!x.right2) hc
   have hany:=z2R (p:=fun x:Ex=>!x.right2) hc
   obtain ⟨op',s',nl',l'⟩:=c
   rw [z0a] at hu
   have ih:=c87 (.mk op' s' nl' l') (z5J he hm) H1
   rw [z0a] at ih
   refine z0E ?_
   refine z0H rfl ih ?_
   refine z0E ?_
   refine z0Q _ rfl ?_ ?_<;>intro hq
   ·rw [hany hq]
    refine z0E ?_
    exact z0Y rfl (z0W hx (z0N.bool _))
   ·refine z0E ?_
    refine ⟨by omega,rfl,hx,hb,?_⟩
    rw [ht,hod,hq];rfl
  ·simp only [lAC] at hc
   have:i=l.length:=by omega
   subst this
   rw [lAW] at hod
   rw [hod]
   refine z0E ?_
   exact z0Y rfl (z0W hx (z0N.bool _))
termination_by SizeOf.sizeOf e
decreasing_by subst_vars;exact z2s (by assumption)
def z4X (e:Ex):Int:=if decide ((e.size:Int)>40)||decide ((e.deep:Int)>12) then 3 else if !e.right2 then 1 else 0
theorem c43 (e:Ex) (he:okE e) (H:z0B):z0D PP 104 [enc e] H (z1A H (.int .i64 (z4X e))):=by
 have k85:=fun H=>c85 e (lBM (zLP e) he) H
 have k86:=fun H=>c86 e he H
 have k87:=fun H=>c87 e he H
 have hv:z4X e=if decide ((e.size:Int)>40)||decide ((e.deep:Int)>12) then 3 else if !e.right2 then 1 else 0:=rfl
 rw [hv]
 generalize e.size=n1 at *
 generalize e.deep=n2 at *
 generalize e.right2=b at *
 obtain ⟨op,s,nl,l⟩:=e
 rw [z0a] at *
 refine z0D.gives (zUf.c1 z0R mixed rfl ?_)
 refine z0E ?_
 refine z0H rfl (k85 _) ?_
 refine z0E ?_
 cases h1:decide ((n1:Int)>40)
 ·refine z0E ?_
  refine z0H rfl (k86 _) ?_
  refine z0E ?_
  cases h2:decide ((n2:Int)>12)
  ·refine z0E ?_
   refine z0H rfl (k87 _) ?_
   refine z0E ?_
   cases b
   ·refine z0E ?_
    exact fr
   ·refine z0E ?_
    exact fr
  ·refine z0E ?_
   exact fr
 ·refine z0E ?_
  exact fr
end Go.Ab
