/- Part 30 of the proof. -/
import Derived.Test.YtagcckioikbanaaGreatDoorA24
import Derived.Test.YtagcckioikbanaaGreatDoorA29
set_option linter.unusedVariables false
set_option linter.unusedSimpArgs false
namespace Go.Ab
open Go
set_option maxRecDepth 100000
noncomputable abbrev PP:Program:=Go.Proofs.Tryz.prog
def z1h (s:List UInt8):Bool:=decide ((s.length:Int)>16)
theorem c73 (s:List UInt8) (H:z0B):z0C PP 87 [.str s] H (z1D H (.bool (z1h s))):=by
 refine z0C.gives (zZU.c1 z0P mixed rfl ?_)
 refine z0F ?_
 exact z0W rfl (z2Z (z0N.bool _))
def zEk (c:UInt8):Bool:=decide ((c.toNat:Int)<33)||decide ((c.toNat:Int)>126)||((c.toNat:Int)==60)||((c.toNat:Int)==62)
def z4q (s:List UInt8):Bool:=!(s.any zEk) && !(s==[])
theorem z0v {α:Type} {p:α→Bool} {s:List α} {i:Nat} {c:α} (hc:s[i]? =some c):(s.take (i+1)).any p=((s.take i).any p||p c):=by
 rw [lA1,hc]
 simp
theorem c75 (s:List UInt8) (hs:s.length≤1000000000000) (H:z0B):z0C PP 88 [.str s] H (z1D H (.bool (z4q s))):=by
 refine z0C.gives (is88.c1 z0P mixed rfl ?_)
 refine z0F ?_
 refine z0H s.length (fun i al H'=>al=[(0,.str s),(5,.int .i64 s.length),(6,.int .i64 i)]∧H'=H++[]∧(s.take i).any zEk=false) ⟨rfl,rfl,by simp⟩ ?_
 rintro i _ _ hi ⟨rfl,rfl,hb⟩
 refine z0F ?_
 refine z0R _ rfl ?_ ?_<;>intro hc
 ·simp only [lAE] at hc
  obtain ⟨c,hc⟩:∃ c,s[i]? =some c:=⟨s[i]'(by omega),lAG (by omega)⟩
  have hbad:zEk c=true→z4q s=false:=by
   intro h
   have:s.any zEk=true:=lA0.2 ⟨c,lAF hc,h⟩
   simp [z4q,this]
  refine z0F ?_
  cases h1:decide ((c.toNat:Int)<33)
  ·refine z0F ?_
   cases h2:decide ((c.toNat:Int)>126)
   ·refine z0F ?_
    cases h3:((c.toNat:Int)==60)
    ·refine z0F ?_
     cases h4:((c.toNat:Int)==62)
     ·refine z0F ?_
      refine ⟨by omega,rfl,rfl,?_⟩
      rw [z0v hc,hb];simp [zEk,h1,h2,h3,h4]
     ·refine z0F ?_
      rw [hbad (by simp [zEk,h1,h2,h3,h4])]
      exact z0W rfl (z2Z (z0N.bool _))
    ·refine z0F ?_
     rw [hbad (by simp [zEk,h1,h2,h3])]
     exact z0W rfl (z2Z (z0N.bool _))
   ·refine z0F ?_
    rw [hbad (by simp [zEk,h1,h2])]
    exact z0W rfl (z2Z (z0N.bool _))
  ·refine z0F ?_
   rw [hbad (by simp [zEk,h1])]
   exact z0W rfl (z2Z (z0N.bool _))
 ·simp only [lAC] at hc
  have:i=s.length:=by omega
  subst this
  rw [lAW] at hb
  refine z0F ?_
  have:z4q s = !(s==[]):=by simp [z4q,hb]
  rw [this]
  exact z0W rfl (z2Z (z0N.bool _))
abbrev okS (s:List UInt8):Prop:=s.length≤1000000000000
abbrev okW (w:List (List UInt8)):Prop:=w.length≤1000000000000∧∀ s∈w,okS s
theorem z1A {α β:Type} {f:α→β} {l:List α} {i:Nat} {c:α} (h:l[i]? =some c):(l.map f)[i]? =some (f c):=by rw [lAK,h];rfl
theorem z0M {α:Type} {l:List α} {i:Nat} (h:i<l.length):∃ c,l[i]? =some c:=⟨l[i],lAG h⟩
theorem z2b {α:Type} {p:α→Bool} {l:List α} {i:Nat} {c:α} (h:l[i]? =some c) (hp:p c=true):l.any p=true:=lA0.2 ⟨c,lAF h,hp⟩
theorem c74 (s:List UInt8) (hs:okS s) (H:z0B):z0C PP 89 [.str s] H (z1D H (.bool (!z4q s))):=by
 refine z0C.gives (zZT.c1 z0P mixed rfl ?_)
 refine z0F ?_
 refine z0J rfl (c75 s hs _) ?_
 refine z0F ?_
 exact fr
def zNS:Option Nat→Int
 | some i=>i
 | none=>-1
theorem c137 {v:AV} {w:List (List UInt8)} (hv:Sl 1 v (w.map .str)) (hw:w.length≤1000000000000) {g:FuncId} {fs cs:List AV} {p:List UInt8→Bool} (hg:hasBody PP g=true)
  (hp:∀ s∈w,∀ H,z0C PP g (fs++[.str s]++cs) H (z1D H (.bool (p s)))) (H:z0B) :
  z0C PP 157 [v,.clo (.func g) fs cs] H (z1D H (.int .i64 (zNS (w.findIdx? p)))):=by
 have hl:(w.map AV.str).length=w.length:=lAD _
 refine z0C.gives (zVN.c2 z0P mixed rfl ?_)
 refine z0F ?_
 refine z0H w.length (fun i al H'=>al=[(0,v),(1,.clo (.func g) fs cs),(7,.int .i64 (w.map AV.str).length),(8,.int .i64 i)]∧H'=H++[]∧∀ k c,k<i→w[k]? =some c→p c=false) ⟨rfl,rfl,by omega⟩ ?_
 rintro i _ _ hi ⟨rfl,rfl,hb⟩
 refine z0F ?_
 refine z0R _ rfl ?_ ?_<;>intro hc
 ·simp only [lAE] at hc
  obtain ⟨c,hc⟩:=z0M (l:=w) (i:=i) (by omega)
  have hu:=z1A (f:=AV.str) hc
  refine z0F ?_
  refine z3V rfl hg (hp c (lAF hc) _) ?_
  refine z0F ?_
  refine z0R _ rfl ?_ ?_<;>intro hpc
  ·refine z0F ?_
   have:w.findIdx? p=some i:=by
    rw [lBU]
    refine ⟨by omega,?_,?_⟩
    ·rw [lAG (by omega)] at hc;injection hc with hc;rw [hc];exact hpc
    ·intro j hj;rw [hb j _ hj (lAG (by omega))];simp
   rw [this]
   exact fr
  ·refine z0F ?_
   refine ⟨by omega,rfl,rfl,?_⟩
   intro k d hk hd
   rcases lCL.1 hk with h | h
   ·exact hb k d h hd
   ·subst h;rw [hc] at hd;injection hd with hd;rw [←hd];exact hpc
 ·simp only [lAC] at hc
  refine z0F ?_
  have:w.findIdx? p=none:=by
   rw [lB5]
   intro x hx
   obtain ⟨k,hk,rfl⟩:=lC0 hx
   exact hb k _ (by omega) (lAG hk)
  rw [this]
  exact fr
theorem zEH {α:Type} {p:α→Bool} (l:List α):decide (zNS (l.findIdx? p)≥0)=l.any p:=by
 cases h:l.findIdx? p with
 | none =>
  rw [lB5] at h
  have:l.any p=false:=by rw [lB1];intro x hx;rw [h x hx];simp
  rw [this];rfl
 | some i =>
  rw [lBU] at h
  obtain ⟨hi,hp,_⟩:=h
  have:l.any p=true:=lA0.2 ⟨_,lBY hi,hp⟩
  rw [this];simp [zNS]
theorem c72 {v:AV} {w:List (List UInt8)} (hv:Sl 1 v (w.map .str)) (hw:w.length≤1000000000000) {g:FuncId} {fs cs:List AV} {p:List UInt8→Bool} (hg:hasBody PP g=true)
  (hp:∀ s∈w,∀ H,z0C PP g (fs++[.str s]++cs) H (z1D H (.bool (p s)))) (H:z0B) :
  z0C PP 86 [v,.clo (.func g) fs cs] H (z1D H (.bool (w.any p))):=by
 refine z0C.gives (is86.c2 z0P mixed rfl ?_)
 refine z0F ?_
 refine z0J rfl (c137 hv hw hg hp _) ?_
 refine z0F ?_
 rw [zEH]
 exact fr
def z1X (w:List (List UInt8)):Int:=if decide ((w.length:Int)>60)||w.any z1h then 3 else if w.any (fun s=>!z4q s) then 1 else 0
theorem b73:hasBody PP 87=true:=zZU.hasBody
theorem b74:hasBody PP 89=true:=zZT.hasBody
theorem c38 {v:AV} {w:List (List UInt8)} (hv:Sl 1 v (w.map .str)) (hw:okW w) (H:z0B):z0C PP 40 [v] H (z1D H (.int .i64 (z1X w))):=by
 have hl:(w.map AV.str).length=w.length:=lAD _
 have k73:=c72 hv hw.1 (fs:=[]) (cs:=[]) b73 (p:=z1h) (fun s _ H=>c73 s H)
 have k74:=c72 hv hw.1 (fs:=[]) (cs:=[]) b74 (p:=fun s=>!z4q s) (fun s h H=>c74 s (hw.2 s h) H)
 have e0:decide (((w.map AV.str).length:Int)>60)=decide ((w.length:Int)>60):=by rw [hl]
 refine z0C.gives (is40.c1 z0P mixed rfl ?_)
 refine z0F ?_
 rw [e0]
 cases h1:decide ((w.length:Int)>60)
 ·refine z0F ?_
  refine z0J rfl (k73 _) ?_
  refine z0F ?_
  cases h2:w.any z1h
  ·refine z0F ?_
   refine z0J rfl (k74 _) ?_
   refine z0F ?_
   cases h3:w.any (fun s=>!z4q s)
   ·refine z0F ?_
    rw [show z1X w=0 by simp only [z1X,h1,h2,h3];rfl]
    exact fr
   ·refine z0F ?_
    rw [show z1X w=1 by simp only [z1X,h1,h2,h3];rfl]
    exact fr
  ·refine z0F ?_
   rw [show z1X w=3 by simp only [z1X,h1,h2];rfl]
   exact fr
 ·refine z0F ?_
  rw [show z1X w=3 by simp only [z1X,h1];rfl]
  exact fr
def z2k (s:List UInt8):Bool:=!(s.any zEk)&&(decide ((s.length:Int)≥1)&&decide ((s.length:Int)≤16))
theorem c142 (s:List UInt8) (hs:okS s) (H:z0B):z0C PP 172 [.str s] H (z1D H (.bool (z2k s))):=by
 refine z0C.gives (zVB.c1 z0P mixed rfl ?_)
 refine z0F ?_
 refine z0H s.length (fun i al H'=>al=[(0,.str s),(3,.int .i64 i)]∧H'=H++[]∧(s.take i).any zEk=false) ⟨rfl,rfl,by simp⟩ ?_
 rintro i _ _ hi ⟨rfl,rfl,hb⟩
 refine z0F ?_
 refine z0R _ rfl ?_ ?_<;>intro hc
 ·simp only [lAE] at hc
  obtain ⟨c,hc⟩:=z0M (l:=s) (i:=i) (by omega)
  have hbad:zEk c=true→z2k s=false:=by
   intro h
   have:s.any zEk=true:=z2b hc h
   simp [z2k,this]
  refine z0F ?_
  cases h1:decide ((c.toNat:Int)<33)
  ·refine z0F ?_
   cases h2:decide ((c.toNat:Int)>126)
   ·refine z0F ?_
    cases h3:((c.toNat:Int)==60)
    ·refine z0F ?_
     cases h4:((c.toNat:Int)==62)
     ·refine z0F ?_
      refine ⟨by omega,rfl,rfl,?_⟩
      rw [z0v hc,hb];simp [zEk,h1,h2,h3,h4]
     ·refine z0F ?_
      rw [hbad (by simp [zEk,h1,h2,h3,h4])]
      exact fr
    ·refine z0F ?_
     rw [hbad (by simp [zEk,h1,h2,h3])]
     exact fr
   ·refine z0F ?_
    rw [hbad (by simp [zEk,h1,h2])]
    exact fr
  ·refine z0F ?_
   rw [hbad (by simp [zEk,h1])]
   exact fr
 ·simp only [lAC] at hc
  have:i=s.length:=by omega
  subst this
  rw [lAW] at hb
  refine z0F ?_
  cases h1:decide ((s.length:Int)≥1)
  ·refine z0F ?_
   have:z2k s=false:=by simp only [z2k,h1];simp
   rw [this]
   exact fr
  ·refine z0F ?_
   have:z2k s=decide ((s.length:Int)≤16):=by simp only [z2k,hb,h1];simp
   rw [this]
   exact fr
theorem c83 {v:AV} {w:List (List UInt8)} (hv:Sl 1 v (w.map .str)) (hw:okW w) (H:z0B):z0C PP 107 [v] H (z1D H (.bool (w.any z1h))):=by
 have hl:(w.map AV.str).length=w.length:=lAD _
 have hN:=hw.1
 refine z0C.gives (zVg.c1 z0P mixed rfl ?_)
 refine z0F ?_
 refine z0H w.length (fun i al H'=>al=[(0,v),(3,.int .i64 i)]∧H'=H++[]∧(w.take i).any z1h=false) ⟨rfl,rfl,by simp⟩ ?_
 rintro i _ _ hi ⟨rfl,rfl,hb⟩
 refine z0F ?_
 refine z0R _ rfl ?_ ?_<;>intro hc
 ·simp only [lAE] at hc
  obtain ⟨c,hc⟩:=z0M (l:=w) (i:=i) (by omega)
  have hu:=z1A (f:=AV.str) hc
  refine z0F ?_
  refine z0R _ rfl ?_ ?_<;>intro h1
  ·refine z0F ?_
   rw [z2b hc (p:=z1h) h1]
   exact fr
  ·refine z0F ?_
   refine ⟨by omega,rfl,rfl,?_⟩
   rw [z0v hc,hb];simpa [z1h] using h1
 ·simp only [lAC] at hc
  have:i=w.length:=by omega
  subst this
  rw [lAW] at hb
  refine z0F ?_
  rw [hb]
  exact fr
theorem c84 {v:AV} {w:List (List UInt8)} (hv:Sl 1 v (w.map .str)) (hw:okW w) (H:z0B):z0C PP 108 [v] H (z1D H (.bool (!(w.any fun s=>!z2k s)))):=by
 have hl:(w.map AV.str).length=w.length:=lAD _
 have hN:=hw.1
 refine z0C.gives (zVf.c1 z0P mixed rfl ?_)
 refine z0F ?_
 refine z0H w.length (fun i al H'=>al=[(0,v),(3,.int .i64 i)]∧H'=H++[]∧((w.take i).any fun s=>!z2k s)=false) ⟨rfl,rfl,by simp⟩ ?_
 rintro i _ _ hi ⟨rfl,rfl,hb⟩
 refine z0F ?_
 refine z0R _ rfl ?_ ?_<;>intro hc
 ·simp only [lAE] at hc
  obtain ⟨c,hc⟩:=z0M (l:=w) (i:=i) (by omega)
  have hu:=z1A (f:=AV.str) hc
  refine z0F ?_
  refine z0J rfl (c142 c (hw.2 c (lAF hc)) _) ?_
  refine z0F ?_
  refine z0R _ rfl ?_ ?_<;>intro h1
  ·refine z0F ?_
   rw [z2b hc (p:=fun s=>!z2k s) h1]
   exact fr
  ·refine z0F ?_
   refine ⟨by omega,rfl,rfl,?_⟩
   rw [z0v hc,hb];simpa using h1
 ·simp only [lAC] at hc
  have:i=w.length:=by omega
  subst this
  rw [lAW] at hb
  refine z0F ?_
  rw [hb]
  exact fr
theorem zFU {s:List UInt8} (h:z1h s=false):z2k s=z4q s:=by
 unfold z2k z4q
 simp only [z1h,lAC] at h
 have h2:decide ((s.length:Int)≤16)=true:=by simp;omega
 have h1:decide ((s.length:Int)≥1) = !(s==[]):=by
  cases s with
  | nil=>rfl
  | cons a l=>simp;omega
 rw [h1,h2,Bool.and_true]
theorem c42 {v:AV} {w:List (List UInt8)} (hv:Sl 1 v (w.map .str)) (hw:okW w) (H:z0B):z0C PP 61 [v] H (z1D H (.int .i64 (z1X w))):=by
 have hl:(w.map AV.str).length=w.length:=lAD _
 have e0:decide (((w.map AV.str).length:Int)>60)=decide ((w.length:Int)>60):=by rw [hl]
 refine z0C.gives (is61.c1 z0P mixed rfl ?_)
 refine z0F ?_
 rw [e0]
 cases h1:decide ((w.length:Int)>60)
 ·refine z0F ?_
  refine z0J rfl (c83 hv hw _) ?_
  refine z0F ?_
  cases h2:w.any z1h
  ·refine z0F ?_
   refine z0J rfl (c84 hv hw _) ?_
   refine z0F ?_
   have e:(w.any fun s=>!z2k s)=w.any fun s=>!z4q s:=by
    apply lBM.2
    simp only [lA0]
    rw [lB1] at h2
    constructor
    ·rintro ⟨s,hs,h⟩;exact ⟨s,hs,by rw [←zFU (by simpa using h2 s hs)];exact h⟩
    ·rintro ⟨s,hs,h⟩;exact ⟨s,hs,by rw [zFU (by simpa using h2 s hs)];exact h⟩
   rw [e]
   cases h3:w.any (fun s=>!z4q s)
   ·refine z0F ?_
    rw [show z1X w=0 by simp only [z1X,h1,h2,h3];rfl]
    exact fr
   ·refine z0F ?_
    rw [show z1X w=1 by simp only [z1X,h1,h2,h3];rfl]
    exact fr
  ·refine z0F ?_
   rw [show z1X w=3 by simp only [z1X,h1,h2];rfl]
   exact fr
 ·refine z0F ?_
  rw [show z1X w=3 by simp only [z1X,h1];rfl]
  exact fr
inductive Ex where
 | mk (op:Int) (s:List UInt8) (nl:Bool) (l:List Ex)
mutual
def enc:Ex→AV
 | .mk op s nl l=>.agg [.int .i64 op,.str s,if nl&&l.isEmpty then .nilslice else .list 3 (zYt l)]
def zYt:List Ex→List AV
 | []=>[]
 | x::xs=>enc x::zYt xs
end
theorem zKA:∀ l:List Ex,zYt l=l.map enc
 | []=>rfl
 | x::xs=>by simp only [zYt,zKA xs,lBA]
def lst (nl:Bool) (l:List Ex):AV:=if nl&&l.isEmpty then .nilslice else .list 3 (l.map enc)
theorem z0e (op:Int) (s:List UInt8) (nl:Bool) (l:List Ex):enc (.mk op s nl l)=.agg [.int .i64 op,.str s,lst nl l]:=by
 simp only [enc,lst,zKA]
theorem z5G (nl:Bool) (l:List Ex):Sl 3 (lst nl l) (l.map enc):=by
 unfold lst
 cases l with
 | nil=>cases nl<;>first | exact .nil | exact .list []
 | cons x xs=>simp only [List.isEmpty_cons,lD6,lAX,if_false];exact .list _
theorem zCp (nl:Bool) (l:List Ex):AV.scalar (lst nl l)=true:=by
 unfold lst;split<;>rfl
theorem z7x {op:Int} {s:List UInt8} {nl:Bool} {l:List Ex}:([.int .i64 op,.str s,lst nl l]:List AV).all AV.scalar=true:=by
 simp only [lB3,zCp,List.all_nil];rfl
theorem zGU (e:Ex):∃ a b c,enc e=.agg [a,b,c]:=by cases e;exact ⟨_,_,_,z0e ..⟩
mutual
def Ex.size:Ex→Nat
 | .mk _ _ _ l=>1+z0Z l
def z0Z:List Ex→Nat
 | []=>0
 | x::xs=>x.size+z0Z xs
end
theorem z5H {l:List Ex} {i:Nat} {x:Ex} (h:l[i]? =some x):z0Z (l.take (i+1))=z0Z (l.take i)+x.size:=by
 induction l generalizing i with
 | nil=>simp at h
 | cons y ys ih =>
  cases i with
  | zero=>simp at h;subst h;simp [z0Z]
  | succ i=>simp only [lBV,z0Z];rw [ih (by simpa using h)];omega
theorem z6r:∀ (l:List Ex) (i:Nat),z0Z (l.take i)≤z0Z l
 | [],i=>by simp
 | x::xs,0=>by simp [z0Z]
 | x::xs,i+1=>by simp only [lBV,z0Z];have:=z6r xs i;omega
theorem zJQ {l:List Ex} {x:Ex} (h:x∈l):x.size≤z0Z l:=by
 obtain ⟨i,hi,rfl⟩:=lC0 h
 have h1:=z5H (lAG hi)
 have h2:=z6r l (i+1)
 omega
theorem z1U:∀ l:List Ex,l.length≤z0Z l
 | []=>by simp [z0Z]
 | .mk op s nl k::xs=>by simp only [z0Z,lBC,Ex.size];have:=z1U xs;omega
mutual
def Ex.deep:Ex→Nat
 | .mk _ _ _ l=>zBq l+1
def zBq:List Ex→Nat
 | []=>0
 | x::xs=>max x.deep (zBq xs)
end
theorem zDG {l:List Ex} {i:Nat} {x:Ex} (h:l[i]? =some x):zBq (l.take (i+1))=max (zBq (l.take i)) x.deep:=by
 induction l generalizing i with
 | nil=>simp at h
 | cons y ys ih =>
  cases i with
  | zero=>simp at h;subst h;simp [zBq]
  | succ i=>simp only [lBV,zBq];rw [ih (by simpa using h)];omega
mutual
theorem zGb:∀ e:Ex,e.deep≤e.size
 | .mk op s nl l=>by simp only [Ex.deep,Ex.size];have:=z3Y l;omega
theorem z3Y:∀ l:List Ex,zBq l≤z0Z l
 | []=>by simp [zBq,z0Z]
 | x::xs=>by simp only [zBq,z0Z];have:=zGb x;have:=z3Y xs;omega
end
def Ext (H H':z0B):Prop:=∃ G,H'=H++G
theorem Ext.refl (H:z0B):Ext H H:=⟨[],by simp⟩
theorem Ext.app {H H':z0B} (h:Ext H H') (G:z0B):Ext H (H'++G):=by obtain ⟨G',rfl⟩:=h;exact ⟨G'++G,by rw [lA3]⟩
theorem z0b {H H':z0B} {v:AV} (h:Ext H H') (hp:z0N v):zCL H v (.ret v) H':=by obtain ⟨G,rfl⟩:=h;exact z2Z hp
theorem z7L {P:Program} {c:IC} {Q:PL} {al:AL} {H:z0B} (h:WI P c Q al (H++[])):WI P c Q al H:=by rwa [lAJ] at h
theorem z3L {op:Int} {s:List UInt8} {nl:Bool} {l:List Ex} {x:Ex} (h:x∈l):SizeOf.sizeOf x<SizeOf.sizeOf (Ex.mk op s nl l):=by
 have:=List.sizeOf_lt_of_mem h
 simp only [Ex.mk.sizeOf_spec];omega
theorem c85 (e:Ex) (he:e.size≤1000000000000) (H:z0B):z0C PP 168 [enc e] H (z1D H (.int .i64 e.size)):=by
 match e,he with
 | .mk op s nl l,he =>
  have hs:=z5G nl l
  have hl:(l.map enc).length=l.length:=lAD _
  have he':1+z0Z l≤1000000000000:=by simpa only [Ex.size] using he
  have hll:=z1U l
  rw [z0e]
  refine z0C.gives (zVF.c1 z0P mixed rfl ?_)
  refine z0F ?_
  refine z0H l.length (fun i al H'=>al=[(1,.ptr (H.length+0) 0),(3,.int .i64 (1+z0Z (l.take i):Nat)),(4,.int .i64 i)]∧Ext H H'∧H'[H.length+0]? =some (.cells [.int .i64 op,.str s,lst nl l]))
   ⟨rfl,⟨_,rfl⟩,z1S⟩ ?_
  rintro i _ H1 hi ⟨rfl,hx,hb⟩
  refine z0F ?_
  refine z0R _ rfl ?_ ?_<;>intro hc
  ·simp only [lAE] at hc
   obtain ⟨c,hc⟩:=z0M (l:=l) (i:=i) (by omega)
   have hu:=z1A (f:=enc) hc
   have hm:=lAF hc
   have hsz:=zJQ hm
   have h1:=z5H hc
   have h2:=z6r l (i+1)
   obtain ⟨op',s',nl',l'⟩:=c
   rw [z0e] at hu
   have ih:=c85 (.mk op' s' nl' l') (by omega) H1
   rw [z0e] at ih
   refine z0F ?_
   refine z0J rfl ih ?_
   refine z1N rfl rfl (by omega) ?_
   refine z0F ?_
   refine ⟨by omega,?_,hx,hb⟩
   rw [h1,lBS];rfl
  ·simp only [lAC] at hc
   have:i=l.length:=by omega
   subst this
   rw [lAW]
   refine z0F ?_
   exact z0W rfl (z0b hx (z0N.int _ _))
termination_by SizeOf.sizeOf e
decreasing_by subst_vars;exact z3L (by assumption)
theorem c76 (e:Ex) (he:e.size≤1000000000000) (H:z0B):z0C PP 135 [enc e] H (z1D H (.int .i64 e.size)):=by
 match e,he with
 | .mk op s nl l,he =>
  have hs:=z5G nl l
  have hl:(l.map enc).length=l.length:=lAD _
  have he':1+z0Z l≤1000000000000:=by simpa only [Ex.size] using he
  have hll:=z1U l
  rw [z0e]
  refine z0C.gives (zVV.c1 z0P mixed rfl ?_)
  refine z0F ?_
  refine z0H l.length (fun i al H'=>al=[(3,.int .i64 (1+z0Z (l.take i):Nat)),(7,lst nl l),(8,.int .i64 (l.map enc).length),(9,.int .i64 i)]∧Ext H H') ⟨rfl,⟨_,rfl⟩⟩ ?_
  rintro i _ H1 hi ⟨rfl,hx⟩
  refine z7L ?_
  refine z0F ?_
  refine z0R _ rfl ?_ ?_<;>intro hc
  ·simp only [lAE] at hc
   obtain ⟨c,hc⟩:=z0M (l:=l) (i:=i) (by omega)
   have hu:=z1A (f:=enc) hc
   have hm:=lAF hc
   have hsz:=zJQ hm
   have h1:=z5H hc
   have h2:=z6r l (i+1)
   obtain ⟨op',s',nl',l'⟩:=c
   rw [z0e] at hu
   have ih:=fun H=>c76 (.mk op' s' nl' l') (by omega) H
   simp only [z0e] at ih
   refine z0F ?_
   refine z0J rfl (ih _) ?_
   refine z1N rfl rfl (by omega) ?_
   refine z0F ?_
   refine ⟨by omega,?_,hx.app _⟩
   rw [h1,lBS];rfl
  ·simp only [lAC] at hc
   have:i=l.length:=by omega
   subst this
   rw [lAW]
   refine z0F ?_
   exact z0W rfl (z0b (hx.app _) (z0N.int _ _))
termination_by SizeOf.sizeOf e
decreasing_by subst_vars;exact z3L (by assumption)
mutual
def Ex.w:Ex→Nat
 | .mk _ s _ l=>1+s.length+ws l
def ws:List Ex→Nat
 | []=>0
 | x::xs=>x.w+ws xs
end
theorem zEm:∀ {l:List Ex} {x:Ex},x∈l→x.w≤ws l
 | y::ys,x,h=>by
  simp only [ws]
  rcases lAV.1 h with rfl | h
  ·omega
  ·have:=zEm h;omega
mutual
theorem zMS:∀ e:Ex,e.size≤e.w
 | .mk op s nl l=>by simp only [Ex.size,Ex.w];have:=z8R l;omega
theorem z8R:∀ l:List Ex,z0Z l≤ws l
 | []=>by simp [ws,z0Z]
 | x::xs=>by simp only [ws,z0Z];have:=zMS x;have:=z8R xs;omega
end
abbrev okE (e:Ex):Prop:=e.w≤1000000000000
theorem z5k {op:Int} {s:List UInt8} {nl:Bool} {l:List Ex} (h:okE (.mk op s nl l)) {x:Ex} (hx:x∈l):okE x:=by
 unfold okE at h ⊢;simp only [Ex.w] at h;have:=zEm hx;omega
theorem zUG {op:Int} {s:List UInt8} {nl:Bool} {l:List Ex} (h:okE (.mk op s nl l)):okS s:=by
 unfold okE at h;simp only [Ex.w] at h;unfold okS;omega
theorem zDx {op:Int} {s:List UInt8} {nl:Bool} {l:List Ex} (h:okE (.mk op s nl l)):l.length≤1000000000000:=by
 unfold okE at h;simp only [Ex.w] at h;have:=z1U l;have:=z8R l;omega
theorem c86 (e:Ex) (he:okE e) (H:z0B):z0C PP 169 [enc e] H (z1D H (.int .i64 e.deep)):=by
 match e,he with
 | .mk op s nl l,he =>
  have hs:=z5G nl l
  have hl:(l.map enc).length=l.length:=lAD _
  have hll:=zDx he
  have hd:=z3Y l
  have hw:=z8R l
  have hwl:ws l≤1000000000000:=by unfold okE at he;simp only [Ex.w] at he;omega
  rw [z0e]
  refine z0C.gives (zVE.c1 z0P mixed rfl ?_)
  refine z0F ?_
  refine z0H l.length (fun i al H'=>al=[(1,.ptr (H.length+0) 0),(3,.int .i64 (zBq (l.take i):Nat)),(4,.int .i64 i)]∧Ext H H'∧H'[H.length+0]? =some (.cells [.int .i64 op,.str s,lst nl l]))
   ⟨rfl,⟨_,rfl⟩,z1S⟩ ?_
  rintro i _ H1 hi ⟨rfl,hx,hb⟩
  refine z0F ?_
  refine z0R _ rfl ?_ ?_<;>intro hc
  ·simp only [lAE] at hc
   obtain ⟨c,hc⟩:=z0M (l:=l) (i:=i) (by omega)
   have hu:=z1A (f:=enc) hc
   have hm:=lAF hc
   have h1:=zDG hc
   obtain ⟨op',s',nl',l'⟩:=c
   rw [z0e] at hu
   have ih:=c86 (.mk op' s' nl' l') (z5k he hm) H1
   rw [z0e] at ih
   refine z0F ?_
   refine z0J rfl ih ?_
   refine zMN rfl rfl ?_
   refine z0F ?_
   refine ⟨by omega,?_,hx,hb⟩
   rw [h1];rfl
  ·simp only [lAC] at hc
   have:i=l.length:=by omega
   subst this
   rw [lAW]
   refine z0F ?_
   exact z0W rfl (z0b hx (z0N.int _ _))
termination_by SizeOf.sizeOf e
decreasing_by subst_vars;exact z3L (by assumption)
theorem c77 (e:Ex) (he:okE e) (H:z0B):z0C PP 136 [enc e] H (z1D H (.int .i64 e.deep)):=by
 match e,he with
 | .mk op s nl l,he =>
  have hs:=z5G nl l
  have hl:(l.map enc).length=l.length:=lAD _
  have hll:=zDx he
  have hd:=z3Y l
  have hw:=z8R l
  have hwl:ws l≤1000000000000:=by unfold okE at he;simp only [Ex.w] at he;omega
  rw [z0e]
  refine z0C.gives (zVU.c1 z0P mixed rfl ?_)
  refine z0F ?_
  refine z0H l.length (fun i al H'=>al=[(3,.int .i64 (zBq (l.take i):Nat)),(7,lst nl l),(8,.int .i64 (l.map enc).length),(9,.int .i64 i)]∧Ext H H') ⟨rfl,⟨_,rfl⟩⟩ ?_
  rintro i _ H1 hi ⟨rfl,hx⟩
  refine z7L ?_
  refine z0F ?_
  refine z0R _ rfl ?_ ?_<;>intro hc
  ·simp only [lAE] at hc
   obtain ⟨c,hc⟩:=z0M (l:=l) (i:=i) (by omega)
   have hu:=z1A (f:=enc) hc
   have hm:=lAF hc
   have h1:=zDG hc
   obtain ⟨op',s',nl',l'⟩:=c
   rw [z0e] at hu
   have ih:=fun H=>c77 (.mk op' s' nl' l') (z5k he hm) H
   simp only [z0e] at ih
   refine z0F ?_
   refine z0J rfl (ih _) ?_
   refine zMN rfl rfl ?_
   refine z0F ?_
   refine ⟨by omega,?_,hx.app _⟩
   rw [h1];rfl
  ·simp only [lAC] at hc
   have:i=l.length:=by omega
   subst this
   rw [lAW]
   refine z0F ?_
   exact z0W rfl (z0b (hx.app _) (z0N.int _ _))
termination_by SizeOf.sizeOf e
decreasing_by subst_vars;exact z3L (by assumption)
def z6C (op:Int):Int × Int × Bool :=
 if op=0∨op=1∨op=2∨op=3 then (0,0,true) else if op=8∨op=9∨op=10∨op=11∨op=12 then (1,1,true) else
 if op=7∨op=13∨op=15 then (2,2,true) else if op=14 then (3,3,true) else if op=4∨op=5∨op=6 then (2,-1,true) else (0,0,false)
theorem zHP (op:Int):(op=0∨op=1∨op=2∨op=3∨op=4∨op=5∨op=6∨op=7∨op=8∨op=9∨op=10∨op=11∨op=12∨op=13∨op=14∨op=15)∨(op<0∨15<op):=by omega
theorem z1q {op:Int} (h:op<0∨15<op):∀ k:Nat,k≤15→(op==(k:Int))=false:=by
 intro k hk;simp;omega
theorem c138 (op:Int) (H:z0B):z0C PP 190 [.int .i64 op] H (z1D H (.tuple [.int .i64 (z6C op).1,.int .i64 (z6C op).2.1,.bool (z6C op).2.2])):=by
 have hp:∀ a b c,z0N (.tuple [.int .i64 a,.int .i64 b,.bool c]):=fun a b c=>⟨3,rfl⟩
 refine z0C.gives (zUy.c1 z0P mixed rfl ?_)
 rcases zHP op with h | h
 ·rcases h with rfl | rfl | rfl | rfl | rfl | rfl | rfl | rfl | rfl | rfl | rfl | rfl | rfl | rfl | rfl | rfl <;>
  ·refine z0F ?_
   exact z0W rfl (z2Z (hp _ _ _))
 ·have h0:(op==0)=false:=z1q h 0 (by omega)
  have h1:(op==1)=false:=z1q h 1 (by omega)
  have h2:(op==2)=false:=z1q h 2 (by omega)
  have h3:(op==3)=false:=z1q h 3 (by omega)
  have h4:(op==4)=false:=z1q h 4 (by omega)
  have h5:(op==5)=false:=z1q h 5 (by omega)
  have h6:(op==6)=false:=z1q h 6 (by omega)
  have h7:(op==7)=false:=z1q h 7 (by omega)
  have h8:(op==8)=false:=z1q h 8 (by omega)
  have h9:(op==9)=false:=z1q h 9 (by omega)
  have h10:(op==10)=false:=z1q h 10 (by omega)
  have h11:(op==11)=false:=z1q h 11 (by omega)
  have h12:(op==12)=false:=z1q h 12 (by omega)
  have h13:(op==13)=false:=z1q h 13 (by omega)
  have h14:(op==14)=false:=z1q h 14 (by omega)
  have h15:(op==15)=false:=z1q h 15 (by omega)
  have e:z6C op=(0,0,false):=by
   unfold z6C
   rw [if_neg (by omega),if_neg (by omega),if_neg (by omega),if_neg (by omega),if_neg (by omega)]
  rw [e]
  refine z0F ?_
  exact z0W rfl (z2Z (hp _ _ _))
theorem c141 {v:AV} {w:List Ex} (hv:Sl 3 v (w.map enc)) (hw:w.length≤1000000000000) {g:FuncId} {fs cs:List AV} {p:Ex→Bool} (hg:hasBody PP g=true)
  (hp:∀ s∈w,∀ H,z0C PP g (fs++[enc s]++cs) H (z1D H (.bool (p s)))) (H:z0B) :
  z0C PP 193 [v,.clo (.func g) fs cs] H (z1D H (.int .i64 (zNS (w.findIdx? p)))):=by
 have hl:(w.map enc).length=w.length:=lAD _
 refine z0C.gives (zUw.c2 z0P mixed rfl ?_)
 refine z0F ?_
 refine z0H w.length (fun i al H'=>al=[(0,v),(1,.clo (.func g) fs cs),(7,.int .i64 (w.map enc).length),(8,.int .i64 i)]∧H'=H++[]∧∀ k c,k<i→w[k]? =some c→p c=false) ⟨rfl,rfl,by omega⟩ ?_
 rintro i _ _ hi ⟨rfl,rfl,hb⟩
 refine z0F ?_
 refine z0R _ rfl ?_ ?_<;>intro hc
 ·simp only [lAE] at hc
  obtain ⟨c,hc⟩:=z0M (l:=w) (i:=i) (by omega)
  have hu:=z1A (f:=enc) hc
  have hpc':=hp c (lAF hc)
  have hpp:∀ k d,k<i+1→w[k]? =some d→p c=false→p d=false:=by
   intro k d hk hd hpc
   rcases lCL.1 hk with h | h
   ·exact hb k d h hd
   ·subst h;rw [hc] at hd;injection hd with hd;rw [←hd];exact hpc
  have hfi:p c=true→w.findIdx? p=some i:=by
   intro hpc
   rw [lBU]
   refine ⟨by omega,?_,?_⟩
   ·rw [lAG (by omega)] at hc;injection hc with hc;rw [hc];exact hpc
   ·intro j hj;rw [hb j _ hj (lAG (by omega))];simp
  generalize p c=q at hpc' hpp hfi
  obtain ⟨op',s',nl',l'⟩:=c
  rw [z0e] at hu
  simp only [z0e] at hpc'
  refine z0F ?_
  refine z3V rfl hg (hpc' _) ?_
  refine z0F ?_
  refine z0R _ rfl ?_ ?_<;>intro hpc
  ·refine z0F ?_
   rw [hfi hpc]
   exact fr
  ·refine z0F ?_
   exact ⟨by omega,rfl,rfl,fun k d hk hd=>hpp k d hk hd hpc⟩
 ·simp only [lAC] at hc
  refine z0F ?_
  have:w.findIdx? p=none:=by
   rw [lB5]
   intro x hx
   obtain ⟨k,hk,rfl⟩:=lC0 hx
   exact hb k _ (by omega) (lAG hk)
  rw [this]
  exact fr
theorem c82 {v:AV} {w:List Ex} (hv:Sl 3 v (w.map enc)) (hw:w.length≤1000000000000) {g:FuncId} {fs cs:List AV} {p:Ex→Bool} (hg:hasBody PP g=true)
  (hp:∀ s∈w,∀ H,z0C PP g (fs++[enc s]++cs) H (z1D H (.bool (p s)))) (H:z0B) :
  z0C PP 141 [v,.clo (.func g) fs cs] H (z1D H (.bool (w.any p))):=by
 refine z0C.gives (zVQ.c2 z0P mixed rfl ?_)
 refine z0F ?_
 refine z0J rfl (c141 hv hw hg hp _) ?_
 refine z0F ?_
 rw [zEH]
 exact fr
def z7P (op:Int):Bool:=(op==15)||(op==13)
mutual
def Ex.odd:Ex→Bool
 | .mk op _ _ l=>z7P op||zQR l
def zQR:List Ex→Bool
 | []=>false
 | x::xs=>x.odd||zQR xs
end
theorem zDy:∀ l:List Ex,zQR l=l.any Ex.odd
 | []=>rfl
 | x::xs=>by simp only [zQR,List.any_cons,zDy xs]
theorem c41 (e:Ex) (he:okE e) (H:z0B):z0C PP 76 [enc e] H (z1D H (.bool e.odd)):=by
 match e,he with
 | .mk op s nl l,he =>
  have hs:=z5G nl l
  have hp:∀ x∈l,∀ H,z0C PP 76 ([]++[enc x]++[]) H (z1D H (.bool (x.odd))):=fun x hx H=>c41 x (z5k he hx) H
  have k:=fun H=>c82 hs (zDx he) (fs:=[]) (cs:=[]) zZV.hasBody hp H
  rw [z0e]
  refine z0C.gives (zZV.c1 z0P mixed rfl ?_)
  refine z0F ?_
  cases h1:(op==15)
  ·refine z0F ?_
   cases h2:(op==13)
   ·refine z0F ?_
    refine z0J rfl (k _) ?_
    refine z0F ?_
    rw [show (Ex.mk op s nl l).odd=l.any Ex.odd by simp only [Ex.odd,z7P,h1,h2,zDy,lCP]]
    exact fr
   ·refine z0F ?_
    rw [show (Ex.mk op s nl l).odd=true by simp only [Ex.odd,z7P,h1,h2];rfl]
    exact fr
  ·refine z0F ?_
   rw [show (Ex.mk op s nl l).odd=true by simp only [Ex.odd,z7P,h1];rfl]
   exact fr
termination_by SizeOf.sizeOf e
decreasing_by exact z3L (by assumption)
theorem c44 (e:Ex) (he:okE e) (H:z0B):z0C PP 105 [enc e] H (z1D H (.bool e.odd)):=by
 match e,he with
 | .mk op s nl l,he =>
  have hs:=z5G nl l
  have hl:(l.map enc).length=l.length:=lAD _
  have hll:=zDx he
  rw [z0e]
  refine z0C.gives (zVj.c1 z0P mixed rfl ?_)
  have rest:(op==15)=false→(op==13)=false→(Ex.mk op s nl l).odd=l.any Ex.odd:=by
   intro h1 h2;simp only [Ex.odd,z7P,h1,h2,zDy,lCP]
  refine z0F ?_
  cases h1:(op==15)
  ·refine z0F ?_
   cases h2:(op==13)
   ·rw [rest h1 h2]
    refine z0F ?_
    refine z0H l.length (fun i al H'=>al=[(1,.ptr (H.length+0) 0),(3,.int .i64 i)]∧Ext H H'∧H'[H.length+0]? =some (.cells [.int .i64 op,.str s,lst nl l])∧(l.take i).any Ex.odd=false)
     ⟨rfl,⟨_,rfl⟩,z1S,by simp⟩ ?_
    rintro i _ H1 hi ⟨rfl,hx,hb,hod⟩
    refine z0F ?_
    refine z0R _ rfl ?_ ?_<;>intro hc
    ·simp only [lAE] at hc
     obtain ⟨c,hc⟩:=z0M (l:=l) (i:=i) (by omega)
     have hu:=z1A (f:=enc) hc
     have hm:=lAF hc
     have ht:=z0v (p:=Ex.odd) hc
     have hany:=z2b (p:=Ex.odd) hc
     obtain ⟨op',s',nl',l'⟩:=c
     rw [z0e] at hu
     have ih:=c44 (.mk op' s' nl' l') (z5k he hm) H1
     rw [z0e] at ih
     refine z0F ?_
     refine z0J rfl ih ?_
     refine z0F ?_
     refine z0R _ rfl ?_ ?_<;>intro hq
     ·rw [hany hq]
      refine z0F ?_
      exact z0W rfl (z0b hx (z0N.bool _))
     ·refine z0F ?_
      refine ⟨by omega,rfl,hx,hb,?_⟩
      rw [ht,hod,hq];rfl
    ·simp only [lAC] at hc
     have:i=l.length:=by omega
     subst this
     rw [lAW] at hod
     rw [hod]
     refine z0F ?_
     exact z0W rfl (z0b hx (z0N.bool _))
   ·refine z0F ?_
    rw [show (Ex.mk op s nl l).odd=true by simp only [Ex.odd,z7P,h1,h2];rfl]
    exact fr
  ·refine z0F ?_
   rw [show (Ex.mk op s nl l).odd=true by simp only [Ex.odd,z7P,h1];rfl]
   exact fr
termination_by SizeOf.sizeOf e
decreasing_by subst_vars;exact z3L (by assumption)
def z3M (k:Int × Int × Bool) (op:Int) (s:List UInt8) (n:Nat):Bool :=
 !k.2.2||decide ((n:Int)<k.1)||(decide (k.2.1≥0)&&decide ((n:Int)>k.2.1))||((op != 0) && !(s==[]))
def z7T (op:Int) (s:List UInt8):Bool:=(op==0)&&(z1X [s] != 0)
mutual
def Ex.right:Ex→Bool
 | .mk op s _ l=>!z3M (z6C op) op s l.length && !z7T op s&&z6U l
def z6U:List Ex→Bool
 | []=>true
 | x::xs=>x.right&&z6U xs
end
theorem zCr:∀ l:List Ex,(!(l.any fun x=>!x.right))=z6U l
 | []=>rfl
 | x::xs=>by simp only [z6U,List.any_cons,←zCr xs,Bool.not_or,Bool.not_not]
theorem c139 {e:Ex} {b:Bool} (h:∀ H,z0C PP 137 [enc e] H (z1D H (.bool b))) (H:z0B):z0C PP 191 [enc e] H (z1D H (.bool (!b))):=by
 obtain ⟨op,s,nl,l⟩:=e
 rw [z0e] at h ⊢
 refine z0C.gives (zSq.c1 z0P mixed rfl ?_)
 refine z0F ?_
 refine z0J rfl (h _) ?_
 refine z0F ?_
 exact fr
theorem okW1 {s:List UInt8} (h:okS s):okW [s]:=⟨by simp,fun x hx=>by rw [lAR] at hx;subst hx;exact h⟩
theorem c78 (e:Ex) (he:okE e) (H:z0B):z0C PP 137 [enc e] H (z1D H (.bool e.right)):=by
 match e,he with
 | .mk op s nl l,he =>
  have hs:=z5G nl l
  have hl:(l.map enc).length=l.length:=lAD _
  have hp:∀ x∈l,∀ H,z0C PP 191 ([]++[enc x]++[]) H (z1D H (.bool (!x.right))):=fun x hx H=>c139 (fun H=>c78 x (z5k he hx) H) H
  have k82:=fun H=>c82 hs (zDx he) (fs:=[]) (cs:=[]) zSq.hasBody hp H
  have k38:=fun H=>c38 (w:=[s]) (.list _) (okW1 (zUG he)) H
  have hr:(Ex.mk op s nl l).right=(!z3M (z6C op) op s l.length && !z7T op s && !(l.any fun x=>!x.right)):=by rw [zCr];rfl
  have hbn:∀ k,z3M k op s l.length=z3M k op s (l.map enc).length:=fun k=>by rw [hl]
  rw [z0e,hr,hbn]
  refine z0C.gives (zVT.c1 z0P mixed rfl ?_)
  refine z0F ?_
  refine z0J rfl (c138 op _) ?_
  generalize z6C op=k
  obtain ⟨f,t,b⟩:=k
  refine z0F ?_
  refine zJB [(1,.ptr (H.length+0) 0),(42,.bool (z3M (f,t,b) op s (l.map enc).length))] (H++[.cells [.int .i64 op,.str s,lst nl l]]) ?_ ?_
  ·cases b
   ·refine z0F ?_
    exact z4u rfl rfl
   ·refine z0F ?_
    cases h2:decide (((l.map enc).length:Int)<f)
    ·have e0:∀ b,(z3M (f,t,true) op s (l.map enc).length=b↔((decide (t≥0)&&decide (((l.map enc).length:Int)>t))||((op != 0) && !(s==[])))=b):=by
      intro b;simp only [z3M,h2];simp
     refine z0F ?_
     cases h3:decide (t≥0)
     ·refine z0F ?_
      cases h5:(op != 0)
      ·refine z0F ?_
       exact z4u (by rw [(e0 false).2 (by simp only [h3,h5];rfl)];rfl) rfl
      ·refine z0F ?_
       exact z4u (by rw [(e0 (!(s==[]))).2 (by simp only [h3,h5];simp)];rfl) rfl
     ·refine z0F ?_
      cases h4:decide (((l.map enc).length:Int)>t)
      ·refine z0F ?_
       cases h5:(op != 0)
       ·refine z0F ?_
        exact z4u (by rw [(e0 false).2 (by simp only [h3,h4,h5];rfl)];rfl) rfl
       ·refine z0F ?_
        exact z4u (by rw [(e0 (!(s==[]))).2 (by simp only [h3,h4,h5];simp)];rfl) rfl
      ·refine z0F ?_
       exact z4u (by rw [(e0 true).2 (by simp only [h3,h4];simp)];rfl) rfl
    ·refine z0F ?_
     exact z4u (by rw [show z3M (f,t,true) op s (l.map enc).length=true by simp only [z3M,h2];simp];rfl) rfl
  refine zJb ?_
  refine z0R _ rfl ?_ ?_<;>intro hb
  ·rw [hb]
   refine z0F ?_
   exact fr
  ·rw [hb]
   refine z0F ?_
   cases h1:(op==0)
   ·refine z0F ?_
    refine z0J rfl (k82 _) ?_
    refine z0F ?_
    rw [show z7T op s=false by simp only [z7T,h1];rfl]
    exact fr
   ·refine z0F ?_
    refine z8G rfl rfl rfl ?_
    refine z6M rfl ?_
    refine zDe (n:=1) (G':=[.cells [.int .i64 op,.str s,lst nl l],.dead]) (cs:=[.str s]) (args:=[.sl (H.length+1) 0 1 1]) (args':=[.list 1 [.str s]]) ?_ ?_ ?_ (zSH (zAP (H.length+1) [s])) ?_ (k38 _) ?_
    ·rfl
    ·rfl
    ·rfl
    ·rfl
    refine z0F ?_
    refine z0R _ rfl ?_ ?_<;>intro hv
    ·rw [show z7T op s=true by simp only [z7T,h1,hv];rfl]
     refine z0F ?_
     exact fr
    ·rw [show z7T op s=false by simp only [z7T,h1,hv];rfl]
     refine z0F ?_
     refine z0J rfl (k82 _) ?_
     refine z0F ?_
     exact fr
termination_by SizeOf.sizeOf e
decreasing_by exact z3L (by assumption)
def z5y (e:Ex):Int:=if decide ((e.size:Int)>40)||decide ((e.deep:Int)>12) then 3 else if !e.right then 1 else 0
theorem c39 (e:Ex) (he:okE e) (H:z0B):z0C PP 74 [enc e] H (z1D H (.int .i64 (z5y e))):=by
 have k76:=fun H=>c76 e (lBK (zMS e) he) H
 have k77:=fun H=>c77 e he H
 have k78:=fun H=>c78 e he H
 have hv:z5y e=if decide ((e.size:Int)>40)||decide ((e.deep:Int)>12) then 3 else if !e.right then 1 else 0:=rfl
 rw [hv]
 generalize e.size=n1 at *
 generalize e.deep=n2 at *
 generalize e.right=b at *
 obtain ⟨op,s,nl,l⟩:=e
 rw [z0e] at *
 refine z0C.gives (is74.c1 z0P mixed rfl ?_)
 refine z0F ?_
 refine z0J rfl (k76 _) ?_
 refine z0F ?_
 cases h1:decide ((n1:Int)>40)
 ·refine z0F ?_
  refine z0J rfl (k77 _) ?_
  refine z0F ?_
  cases h2:decide ((n2:Int)>12)
  ·refine z0F ?_
   refine z0J rfl (k78 _) ?_
   refine z0F ?_
   cases b
   ·refine z0F ?_
    exact fr
   ·refine z0F ?_
    exact fr
  ·refine z0F ?_
   exact fr
 ·refine z0F ?_
  exact fr
def zEC (op:Int):Int × Int :=
 if op=0∨op=1∨op=2∨op=3 then (0,0) else if op=8∨op=9∨op=10∨op=11∨op=12 then (1,1) else
 if op=7∨op=13∨op=15 then (2,2) else if op=14 then (3,3) else (2,40)
theorem c143 (op:Int) (H:z0B):z0C PP 209 [.int .i64 op] H (z1D H (.tuple [.int .i64 (zEC op).1,.int .i64 (zEC op).2])):=by
 have hp:∀ a b,z0N (.tuple [.int .i64 a,.int .i64 b]):=fun a b=>⟨3,rfl⟩
 refine z0C.gives (zUn.c1 z0P mixed rfl ?_)
 rcases zHP op with h | h
 ·rcases h with rfl | rfl | rfl | rfl | rfl | rfl | rfl | rfl | rfl | rfl | rfl | rfl | rfl | rfl | rfl | rfl <;>
  ·refine z0F ?_
   exact z0W rfl (z2Z (hp _ _))
 ·have h0:(op==0)=false:=z1q h 0 (by omega)
  have h1:(op==1)=false:=z1q h 1 (by omega)
  have h2:(op==2)=false:=z1q h 2 (by omega)
  have h3:(op==3)=false:=z1q h 3 (by omega)
  have h7:(op==7)=false:=z1q h 7 (by omega)
  have h8:(op==8)=false:=z1q h 8 (by omega)
  have h9:(op==9)=false:=z1q h 9 (by omega)
  have h10:(op==10)=false:=z1q h 10 (by omega)
  have h11:(op==11)=false:=z1q h 11 (by omega)
  have h12:(op==12)=false:=z1q h 12 (by omega)
  have h13:(op==13)=false:=z1q h 13 (by omega)
  have h14:(op==14)=false:=z1q h 14 (by omega)
  have h15:(op==15)=false:=z1q h 15 (by omega)
  have e:zEC op=(2,40):=by
   unfold zEC
   rw [if_neg (by omega),if_neg (by omega),if_neg (by omega),if_neg (by omega)]
  rw [e]
  refine z0F ?_
  exact z0W rfl (z2Z (hp _ _))
def z1r (k:Int × Int) (op:Int) (s:List UInt8) (n:Nat):Bool :=
 decide ((n:Int)<k.1)||decide ((n:Int)>k.2)||((op != 0) && !(s==[]))||((op==0)&&(z1X [s] != 0))
def zBM (op:Int):Bool:=decide (op<0)||decide (op>15)
mutual
def Ex.right2:Ex→Bool
 | .mk op s _ l=>!zBM op && !z1r (zEC op) op s l.length&&z9N l
def z9N:List Ex→Bool
 | []=>true
 | x::xs=>x.right2&&z9N xs
end
theorem zBB:∀ l:List Ex,(!(l.any fun x=>!x.right2))=z9N l
 | []=>rfl
 | x::xs=>by simp only [z9N,List.any_cons,←zBB xs,Bool.not_or,Bool.not_not]
theorem c87 (e:Ex) (he:okE e) (H:z0B):z0C PP 170 [enc e] H (z1D H (.bool e.right2)):=by
 match e,he with
 | .mk op s nl l,he =>
  have hs:=z5G nl l
  have hl:(l.map enc).length=l.length:=lAD _
  have hll:=zDx he
  have k42:=fun H=>c42 (w:=[s]) (.list _) (okW1 (zUG he)) H
  have hr:(Ex.mk op s nl l).right2=(!zBM op && !z1r (zEC op) op s l.length && !(l.any fun x=>!x.right2)):=by rw [zBB];rfl
  have hbn:∀ k,z1r k op s l.length=z1r k op s (l.map enc).length:=fun k=>by rw [hl]
  rw [z0e,hr,hbn]
  refine z0C.gives (zVD.c1 z0P mixed rfl ?_)
  refine z0F ?_
  refine zJB [(1,.ptr (H.length+0) 0),(13,.bool (zBM op))] (H++[.cells [.int .i64 op,.str s,lst nl l]]) ?_ ?_
  ·cases h1:decide (op<0)
   ·refine z0F ?_
    exact z4u (by rw [show zBM op=decide (op>15) by simp only [zBM,h1,lCP]];rfl) rfl
   ·refine z0F ?_
    exact z4u (by rw [show zBM op=true by simp only [zBM,h1,lED]];rfl) rfl
  refine zJb ?_
  refine z0R _ rfl ?_ ?_<;>intro ho
  ·rw [ho]
   refine z0F ?_
   exact fr
  rw [ho]
  refine z0F ?_
  refine z0J rfl (c143 op _) ?_
  generalize zEC op=k
  obtain ⟨f,t⟩:=k
  refine z0F ?_
  refine zGr [(1,.ptr (H.length+0) 0),(53,.bool (z1r (f,t) op s (l.map enc).length))] (fun h=>Ext H h∧h[H.length+0]? =some (.cells [.int .i64 op,.str s,lst nl l])) ?_ ?_
  ·cases h1:decide (((l.map enc).length:Int)<f)
   ·refine z0F ?_
    cases h2:decide (((l.map enc).length:Int)>t)
    ·refine z0F ?_
     cases h0:(op==0)
     ·have h5:(op != 0)=true:=by simp only [bne,h0];rfl
      refine z0F ?_
      cases h6:(!(s==[]))
      ·refine z0F ?_
       exact z2T (by rw [show z1r (f,t) op s (l.map enc).length=false by simp only [z1r,h1,h2,h0,h6];simp];rfl) ⟨⟨_,rfl⟩,z1S⟩
      ·refine z0F ?_
       exact z2T (by rw [show z1r (f,t) op s (l.map enc).length=true by simp only [z1r,h5,h6];simp];rfl) ⟨⟨_,rfl⟩,z1S⟩
     ·have h5:(op != 0)=false:=by simp only [bne,h0];rfl
      refine z0F ?_
      refine z8G rfl rfl rfl ?_
      refine z6M (congrArg AV.bool h0) ?_
      refine zDe (n:=1) (G':=[.cells [.int .i64 op,.str s,lst nl l],.dead]) (cs:=[.str s]) (args:=[.sl (H.length+1) 0 1 1]) (args':=[.list 1 [.str s]]) ?_ ?_ ?_ (zSH (zAP (H.length+1) [s])) ?_ (k42 _) ?_
      ·rfl
      ·rfl
      ·rfl
      ·rfl
      refine z0F ?_
      exact z2T (by rw [show z1r (f,t) op s (l.map enc).length=(z1X [s] != 0) by simp only [z1r,h1,h2,h0,h5];simp];rfl) ⟨⟨_,rfl⟩,z1S⟩
    ·refine z0F ?_
     exact z2T (by rw [show z1r (f,t) op s (l.map enc).length=true by simp only [z1r,h1,h2];simp];rfl) ⟨⟨_,rfl⟩,z1S⟩
   ·refine z0F ?_
    exact z2T (by rw [show z1r (f,t) op s (l.map enc).length=true by simp only [z1r,h1];simp];rfl) ⟨⟨_,rfl⟩,z1S⟩
  rintro H1 ⟨hx,hb⟩
  refine zJb ?_
  refine z0R _ rfl ?_ ?_<;>intro hn
  ·rw [hn]
   refine z0F ?_
   exact z0W rfl (z0b hx (z0N.bool _))
  rw [hn]
  refine z0F ?_
  refine z0H l.length (fun i al H'=>al=[(1,.ptr (H.length+0) 0),(5,.int .i64 i)]∧Ext H H'∧H'[H.length+0]? =some (.cells [.int .i64 op,.str s,lst nl l])∧((l.take i).any fun x=>!x.right2)=false)
   ⟨rfl,hx,hb,by simp⟩ ?_
  clear hx hb H1
  rintro i _ H1 hi ⟨rfl,hx,hb,hod⟩
  refine z0F ?_
  refine z0R _ rfl ?_ ?_<;>intro hc
  ·simp only [lAE] at hc
   obtain ⟨c,hc⟩:=z0M (l:=l) (i:=i) (by omega)
   have hu:=z1A (f:=enc) hc
   have hm:=lAF hc
   have ht:=z0v (p:=fun x:Ex=>!x.right2) hc
   have hany:=z2b (p:=fun x:Ex=>!x.right2) hc
   obtain ⟨op',s',nl',l'⟩:=c
   rw [z0e] at hu
   have ih:=c87 (.mk op' s' nl' l') (z5k he hm) H1
   rw [z0e] at ih
   refine z0F ?_
   refine z0J rfl ih ?_
   refine z0F ?_
   refine z0R _ rfl ?_ ?_<;>intro hq
   ·rw [hany hq]
    refine z0F ?_
    exact z0W rfl (z0b hx (z0N.bool _))
   ·refine z0F ?_
    refine ⟨by omega,rfl,hx,hb,?_⟩
    rw [ht,hod,hq];rfl
  ·simp only [lAC] at hc
   have:i=l.length:=by omega
   subst this
   rw [lAW] at hod
   rw [hod]
   refine z0F ?_
   exact z0W rfl (z0b hx (z0N.bool _))
termination_by SizeOf.sizeOf e
decreasing_by subst_vars;exact z3L (by assumption)
def z4w (e:Ex):Int:=if decide ((e.size:Int)>40)||decide ((e.deep:Int)>12) then 3 else if !e.right2 then 1 else 0
theorem c43 (e:Ex) (he:okE e) (H:z0B):z0C PP 104 [enc e] H (z1D H (.int .i64 (z4w e))):=by
 have k85:=fun H=>c85 e (lBK (zMS e) he) H
 have k86:=fun H=>c86 e he H
 have k87:=fun H=>c87 e he H
 have hv:z4w e=if decide ((e.size:Int)>40)||decide ((e.deep:Int)>12) then 3 else if !e.right2 then 1 else 0:=rfl
 rw [hv]
 generalize e.size=n1 at *
 generalize e.deep=n2 at *
 generalize e.right2=b at *
 obtain ⟨op,s,nl,l⟩:=e
 rw [z0e] at *
 refine z0C.gives (zVk.c1 z0P mixed rfl ?_)
 refine z0F ?_
 refine z0J rfl (k85 _) ?_
 refine z0F ?_
 cases h1:decide ((n1:Int)>40)
 ·refine z0F ?_
  refine z0J rfl (k86 _) ?_
  refine z0F ?_
  cases h2:decide ((n2:Int)>12)
  ·refine z0F ?_
   refine z0J rfl (k87 _) ?_
   refine z0F ?_
   cases b
   ·refine z0F ?_
    exact fr
   ·refine z0F ?_
    exact fr
  ·refine z0F ?_
   exact fr
 ·refine z0F ?_
  exact fr
end Go.Ab
