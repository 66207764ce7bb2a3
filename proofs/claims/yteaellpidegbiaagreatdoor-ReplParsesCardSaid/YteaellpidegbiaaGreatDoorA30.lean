/- Part 30 of the proof. -/
import Derived.Test.YteaellpidegbiaaGreatDoorA24
import Derived.Test.YteaellpidegbiaaGreatDoorA27
set_option linter.unusedVariables false
set_option linter.unusedSimpArgs false
namespace Go.Ab
open Go
set_option maxRecDepth 100000
noncomputable abbrev PP:Program:=Go.Proofs.Tryz.prog
def isLongS (s:List UInt8):Bool:=decide ((s.length:Int)>16)
theorem c73 (s:List UInt8) (H:Heap):ACall PP 73 [.str s] H (Just H (.bool (isLongS s))):=by
 refine ACall.gives (is73.c1 z0V mixed rfl ?_)
 refine z0J ?_
 exact z1G rfl (z2P (Plain.bool _))
def badB (c:UInt8):Bool:=decide ((c.toNat:Int)<33)||decide ((c.toNat:Int)>126)||((c.toNat:Int)==60)||((c.toNat:Int)==62)
def isSym (s:List UInt8):Bool:=!(s.any badB) && !(s==[])
theorem z1P {α:Type} {p:α→Bool} {s:List α} {i:Nat} {c:α} (hc:s[i]? =some c):(s.take (i+1)).any p=((s.take i).any p||p c):=by
 rw [List.take_add_one,hc]
 simp
theorem c75 (s:List UInt8) (hs:s.length≤1000000000000) (H:Heap):ACall PP 75 [.str s] H (Just H (.bool (isSym s))):=by
 refine ACall.gives (is75.c1 z0V mixed rfl ?_)
 refine z0J ?_
 refine z1F s.length (fun i al H'=>al=[(0,.str s),(5,.int .i64 s.length),(6,.int .i64 i)]∧H'=H++[]∧(s.take i).any badB=false) ⟨rfl,rfl,by simp⟩ ?_
 rintro i _ _ hi ⟨rfl,rfl,hb⟩
 refine z0J ?_
 refine z0W _ rfl ?_ ?_<;>intro hc
 ·simp only [decide_eq_true_eq] at hc
  obtain ⟨c,hc⟩:∃ c,s[i]? =some c:=⟨s[i]'(by omega),List.getElem?_eq_getElem (by omega)⟩
  have hbad:badB c=true→isSym s=false:=by
   intro h
   have:s.any badB=true:=List.any_eq_true.2 ⟨c,List.mem_of_getElem? hc,h⟩
   simp [isSym,this]
  refine z0J ?_
  cases h1:decide ((c.toNat:Int)<33)
  ·refine z0J ?_
   cases h2:decide ((c.toNat:Int)>126)
   ·refine z0J ?_
    cases h3:((c.toNat:Int)==60)
    ·refine z0J ?_
     cases h4:((c.toNat:Int)==62)
     ·refine z0J ?_
      refine ⟨by omega,rfl,rfl,?_⟩
      rw [z1P hc,hb];simp [badB,h1,h2,h3,h4]
     ·refine z0J ?_
      rw [hbad (by simp [badB,h1,h2,h3,h4])]
      exact z1G rfl (z2P (Plain.bool _))
    ·refine z0J ?_
     rw [hbad (by simp [badB,h1,h2,h3])]
     exact z1G rfl (z2P (Plain.bool _))
   ·refine z0J ?_
    rw [hbad (by simp [badB,h1,h2])]
    exact z1G rfl (z2P (Plain.bool _))
  ·refine z0J ?_
   rw [hbad (by simp [badB,h1])]
   exact z1G rfl (z2P (Plain.bool _))
 ·simp only [decide_eq_false_iff_not] at hc
  have:i=s.length:=by omega
  subst this
  rw [List.take_length] at hb
  refine z0J ?_
  have:isSym s = !(s==[]):=by simp [isSym,hb]
  rw [this]
  exact z1G rfl (z2P (Plain.bool _))
abbrev okS (s:List UInt8):Prop:=s.length≤1000000000000
abbrev okW (w:List (List UInt8)):Prop:=w.length≤1000000000000∧∀ s∈w,okS s
theorem getmap {α β:Type} {f:α→β} {l:List α} {i:Nat} {c:α} (h:l[i]? =some c):(l.map f)[i]? =some (f c):=by rw [List.getElem?_map,h];rfl
theorem z1D {α:Type} {l:List α} {i:Nat} (h:i<l.length):∃ c,l[i]? =some c:=⟨l[i],List.getElem?_eq_getElem h⟩
theorem z2R {α:Type} {p:α→Bool} {l:List α} {i:Nat} {c:α} (h:l[i]? =some c) (hp:p c=true):l.any p=true:=List.any_eq_true.2 ⟨c,List.mem_of_getElem? h,hp⟩
theorem c74 (s:List UInt8) (hs:okS s) (H:Heap):ACall PP 74 [.str s] H (Just H (.bool (!isSym s))):=by
 refine ACall.gives (is74.c1 z0V mixed rfl ?_)
 refine z0J ?_
 refine z0G rfl (c75 s hs _) ?_
 refine z0J ?_
 exact fr
def idxI:Option Nat→Int
 | some i=>i
 | none=>-1
theorem c137 {v:AV} {w:List (List UInt8)} (hv:Sl 1 v (w.map .str)) (hw:w.length≤1000000000000) {g:FuncId} {fs cs:List AV} {p:List UInt8→Bool} (hg:hasBody PP g=true)
  (hp:∀ s∈w,∀ H,ACall PP g (fs++[.str s]++cs) H (Just H (.bool (p s)))) (H:Heap) :
  ACall PP 137 [v,.clo (.func g) fs cs] H (Just H (.int .i64 (idxI (w.findIdx? p)))):=by
 have hl:(w.map AV.str).length=w.length:=List.length_map _
 refine ACall.gives (is137.c2 z0V mixed rfl ?_)
 refine z0J ?_
 refine z1F w.length (fun i al H'=>al=[(0,v),(1,.clo (.func g) fs cs),(7,.int .i64 (w.map AV.str).length),(8,.int .i64 i)]∧H'=H++[]∧∀ k c,k<i→w[k]? =some c→p c=false) ⟨rfl,rfl,by omega⟩ ?_
 rintro i _ _ hi ⟨rfl,rfl,hb⟩
 refine z0J ?_
 refine z0W _ rfl ?_ ?_<;>intro hc
 ·simp only [decide_eq_true_eq] at hc
  obtain ⟨c,hc⟩:=z1D (l:=w) (i:=i) (by omega)
  have hu:=getmap (f:=AV.str) hc
  refine z0J ?_
  refine st_callv rfl hg (hp c (List.mem_of_getElem? hc) _) ?_
  refine z0J ?_
  refine z0W _ rfl ?_ ?_<;>intro hpc
  ·refine z0J ?_
   have:w.findIdx? p=some i:=by
    rw [List.findIdx?_eq_some_iff_getElem]
    refine ⟨by omega,?_,?_⟩
    ·rw [List.getElem?_eq_getElem (by omega)] at hc;injection hc with hc;rw [hc];exact hpc
    ·intro j hj;rw [hb j _ hj (List.getElem?_eq_getElem (by omega))];simp
   rw [this]
   exact fr
  ·refine z0J ?_
   refine ⟨by omega,rfl,rfl,?_⟩
   intro k d hk hd
   rcases Nat.lt_succ_iff_lt_or_eq.1 hk with h | h
   ·exact hb k d h hd
   ·subst h;rw [hc] at hd;injection hd with hd;rw [←hd];exact hpc
 ·simp only [decide_eq_false_iff_not] at hc
  refine z0J ?_
  have:w.findIdx? p=none:=by
   rw [List.findIdx?_eq_none_iff]
   intro x hx
   obtain ⟨k,hk,rfl⟩:=List.getElem_of_mem hx
   exact hb k _ (by omega) (List.getElem?_eq_getElem hk)
  rw [this]
  exact fr
theorem ge0_find {α:Type} {p:α→Bool} (l:List α):decide (idxI (l.findIdx? p)≥0)=l.any p:=by
 cases h:l.findIdx? p with
 | none =>
  rw [List.findIdx?_eq_none_iff] at h
  have:l.any p=false:=by rw [List.any_eq_false];intro x hx;rw [h x hx];simp
  rw [this];rfl
 | some i =>
  rw [List.findIdx?_eq_some_iff_getElem] at h
  obtain ⟨hi,hp,_⟩:=h
  have:l.any p=true:=List.any_eq_true.2 ⟨_,List.getElem_mem hi,hp⟩
  rw [this];simp [idxI]
theorem c72 {v:AV} {w:List (List UInt8)} (hv:Sl 1 v (w.map .str)) (hw:w.length≤1000000000000) {g:FuncId} {fs cs:List AV} {p:List UInt8→Bool} (hg:hasBody PP g=true)
  (hp:∀ s∈w,∀ H,ACall PP g (fs++[.str s]++cs) H (Just H (.bool (p s)))) (H:Heap) :
  ACall PP 72 [v,.clo (.func g) fs cs] H (Just H (.bool (w.any p))):=by
 refine ACall.gives (is72.c2 z0V mixed rfl ?_)
 refine z0J ?_
 refine z0G rfl (c137 hv hw hg hp _) ?_
 refine z0J ?_
 rw [ge0_find]
 exact fr
def vword (w:List (List UInt8)):Int:=if decide ((w.length:Int)>60)||w.any isLongS then 3 else if w.any (fun s=>!isSym s) then 1 else 0
theorem b73:hasBody PP 73=true:=is73.hasBody
theorem b74:hasBody PP 74=true:=is74.hasBody
theorem c38 {v:AV} {w:List (List UInt8)} (hv:Sl 1 v (w.map .str)) (hw:okW w) (H:Heap):ACall PP 38 [v] H (Just H (.int .i64 (vword w))):=by
 have hl:(w.map AV.str).length=w.length:=List.length_map _
 have k73:=c72 hv hw.1 (fs:=[]) (cs:=[]) b73 (p:=isLongS) (fun s _ H=>c73 s H)
 have k74:=c72 hv hw.1 (fs:=[]) (cs:=[]) b74 (p:=fun s=>!isSym s) (fun s h H=>c74 s (hw.2 s h) H)
 have e0:decide (((w.map AV.str).length:Int)>60)=decide ((w.length:Int)>60):=by rw [hl]
 refine ACall.gives (is38.c1 z0V mixed rfl ?_)
 refine z0J ?_
 rw [e0]
 cases h1:decide ((w.length:Int)>60)
 ·refine z0J ?_
  refine z0G rfl (k73 _) ?_
  refine z0J ?_
  cases h2:w.any isLongS
  ·refine z0J ?_
   refine z0G rfl (k74 _) ?_
   refine z0J ?_
   cases h3:w.any (fun s=>!isSym s)
   ·refine z0J ?_
    rw [show vword w=0 by simp only [vword,h1,h2,h3];rfl]
    exact fr
   ·refine z0J ?_
    rw [show vword w=1 by simp only [vword,h1,h2,h3];rfl]
    exact fr
  ·refine z0J ?_
   rw [show vword w=3 by simp only [vword,h1,h2];rfl]
   exact fr
 ·refine z0J ?_
  rw [show vword w=3 by simp only [vword,h1];rfl]
  exact fr
def refSym (s:List UInt8):Bool:=!(s.any badB)&&(decide ((s.length:Int)≥1)&&decide ((s.length:Int)≤16))
theorem c142 (s:List UInt8) (hs:okS s) (H:Heap):ACall PP 142 [.str s] H (Just H (.bool (refSym s))):=by
 refine ACall.gives (is142.c1 z0V mixed rfl ?_)
 refine z0J ?_
 refine z1F s.length (fun i al H'=>al=[(0,.str s),(3,.int .i64 i)]∧H'=H++[]∧(s.take i).any badB=false) ⟨rfl,rfl,by simp⟩ ?_
 rintro i _ _ hi ⟨rfl,rfl,hb⟩
 refine z0J ?_
 refine z0W _ rfl ?_ ?_<;>intro hc
 ·simp only [decide_eq_true_eq] at hc
  obtain ⟨c,hc⟩:=z1D (l:=s) (i:=i) (by omega)
  have hbad:badB c=true→refSym s=false:=by
   intro h
   have:s.any badB=true:=z2R hc h
   simp [refSym,this]
  refine z0J ?_
  cases h1:decide ((c.toNat:Int)<33)
  ·refine z0J ?_
   cases h2:decide ((c.toNat:Int)>126)
   ·refine z0J ?_
    cases h3:((c.toNat:Int)==60)
    ·refine z0J ?_
     cases h4:((c.toNat:Int)==62)
     ·refine z0J ?_
      refine ⟨by omega,rfl,rfl,?_⟩
      rw [z1P hc,hb];simp [badB,h1,h2,h3,h4]
     ·refine z0J ?_
      rw [hbad (by simp [badB,h1,h2,h3,h4])]
      exact fr
    ·refine z0J ?_
     rw [hbad (by simp [badB,h1,h2,h3])]
     exact fr
   ·refine z0J ?_
    rw [hbad (by simp [badB,h1,h2])]
    exact fr
  ·refine z0J ?_
   rw [hbad (by simp [badB,h1])]
   exact fr
 ·simp only [decide_eq_false_iff_not] at hc
  have:i=s.length:=by omega
  subst this
  rw [List.take_length] at hb
  refine z0J ?_
  cases h1:decide ((s.length:Int)≥1)
  ·refine z0J ?_
   have:refSym s=false:=by simp only [refSym,h1];simp
   rw [this]
   exact fr
  ·refine z0J ?_
   have:refSym s=decide ((s.length:Int)≤16):=by simp only [refSym,hb,h1];simp
   rw [this]
   exact fr
theorem c83 {v:AV} {w:List (List UInt8)} (hv:Sl 1 v (w.map .str)) (hw:okW w) (H:Heap):ACall PP 83 [v] H (Just H (.bool (w.any isLongS))):=by
 have hl:(w.map AV.str).length=w.length:=List.length_map _
 have hN:=hw.1
 refine ACall.gives (is83.c1 z0V mixed rfl ?_)
 refine z0J ?_
 refine z1F w.length (fun i al H'=>al=[(0,v),(3,.int .i64 i)]∧H'=H++[]∧(w.take i).any isLongS=false) ⟨rfl,rfl,by simp⟩ ?_
 rintro i _ _ hi ⟨rfl,rfl,hb⟩
 refine z0J ?_
 refine z0W _ rfl ?_ ?_<;>intro hc
 ·simp only [decide_eq_true_eq] at hc
  obtain ⟨c,hc⟩:=z1D (l:=w) (i:=i) (by omega)
  have hu:=getmap (f:=AV.str) hc
  refine z0J ?_
  refine z0W _ rfl ?_ ?_<;>intro h1
  ·refine z0J ?_
   rw [z2R hc (p:=isLongS) h1]
   exact fr
  ·refine z0J ?_
   refine ⟨by omega,rfl,rfl,?_⟩
   rw [z1P hc,hb];simpa [isLongS] using h1
 ·simp only [decide_eq_false_iff_not] at hc
  have:i=w.length:=by omega
  subst this
  rw [List.take_length] at hb
  refine z0J ?_
  rw [hb]
  exact fr
theorem c84 {v:AV} {w:List (List UInt8)} (hv:Sl 1 v (w.map .str)) (hw:okW w) (H:Heap):ACall PP 84 [v] H (Just H (.bool (!(w.any fun s=>!refSym s)))):=by
 have hl:(w.map AV.str).length=w.length:=List.length_map _
 have hN:=hw.1
 refine ACall.gives (is84.c1 z0V mixed rfl ?_)
 refine z0J ?_
 refine z1F w.length (fun i al H'=>al=[(0,v),(3,.int .i64 i)]∧H'=H++[]∧((w.take i).any fun s=>!refSym s)=false) ⟨rfl,rfl,by simp⟩ ?_
 rintro i _ _ hi ⟨rfl,rfl,hb⟩
 refine z0J ?_
 refine z0W _ rfl ?_ ?_<;>intro hc
 ·simp only [decide_eq_true_eq] at hc
  obtain ⟨c,hc⟩:=z1D (l:=w) (i:=i) (by omega)
  have hu:=getmap (f:=AV.str) hc
  refine z0J ?_
  refine z0G rfl (c142 c (hw.2 c (List.mem_of_getElem? hc)) _) ?_
  refine z0J ?_
  refine z0W _ rfl ?_ ?_<;>intro h1
  ·refine z0J ?_
   rw [z2R hc (p:=fun s=>!refSym s) h1]
   exact fr
  ·refine z0J ?_
   refine ⟨by omega,rfl,rfl,?_⟩
   rw [z1P hc,hb];simpa using h1
 ·simp only [decide_eq_false_iff_not] at hc
  have:i=w.length:=by omega
  subst this
  rw [List.take_length] at hb
  refine z0J ?_
  rw [hb]
  exact fr
theorem refSym_eq {s:List UInt8} (h:isLongS s=false):refSym s=isSym s:=by
 unfold refSym isSym
 simp only [isLongS,decide_eq_false_iff_not] at h
 have h2:decide ((s.length:Int)≤16)=true:=by simp;omega
 have h1:decide ((s.length:Int)≥1) = !(s==[]):=by
  cases s with
  | nil=>rfl
  | cons a l=>simp;omega
 rw [h1,h2,Bool.and_true]
theorem c42 {v:AV} {w:List (List UInt8)} (hv:Sl 1 v (w.map .str)) (hw:okW w) (H:Heap):ACall PP 42 [v] H (Just H (.int .i64 (vword w))):=by
 have hl:(w.map AV.str).length=w.length:=List.length_map _
 have e0:decide (((w.map AV.str).length:Int)>60)=decide ((w.length:Int)>60):=by rw [hl]
 refine ACall.gives (is42.c1 z0V mixed rfl ?_)
 refine z0J ?_
 rw [e0]
 cases h1:decide ((w.length:Int)>60)
 ·refine z0J ?_
  refine z0G rfl (c83 hv hw _) ?_
  refine z0J ?_
  cases h2:w.any isLongS
  ·refine z0J ?_
   refine z0G rfl (c84 hv hw _) ?_
   refine z0J ?_
   have e:(w.any fun s=>!refSym s)=w.any fun s=>!isSym s:=by
    apply Bool.eq_iff_iff.2
    simp only [List.any_eq_true]
    rw [List.any_eq_false] at h2
    constructor
    ·rintro ⟨s,hs,h⟩;exact ⟨s,hs,by rw [←refSym_eq (by simpa using h2 s hs)];exact h⟩
    ·rintro ⟨s,hs,h⟩;exact ⟨s,hs,by rw [refSym_eq (by simpa using h2 s hs)];exact h⟩
   rw [e]
   cases h3:w.any (fun s=>!isSym s)
   ·refine z0J ?_
    rw [show vword w=0 by simp only [vword,h1,h2,h3];rfl]
    exact fr
   ·refine z0J ?_
    rw [show vword w=1 by simp only [vword,h1,h2,h3];rfl]
    exact fr
  ·refine z0J ?_
   rw [show vword w=3 by simp only [vword,h1,h2];rfl]
   exact fr
 ·refine z0J ?_
  rw [show vword w=3 by simp only [vword,h1];rfl]
  exact fr
inductive Ex where
 | mk (op:Int) (s:List UInt8) (nl:Bool) (l:List Ex)
mutual
def enc:Ex→AV
 | .mk op s nl l=>.agg [.int .i64 op,.str s,if nl&&l.isEmpty then .nilslice else .list 3 (encs l)]
def encs:List Ex→List AV
 | []=>[]
 | x::xs=>enc x::encs xs
end
theorem encs_map:∀ l:List Ex,encs l=l.map enc
 | []=>rfl
 | x::xs=>by simp only [encs,encs_map xs,List.map_cons]
def lst (nl:Bool) (l:List Ex):AV:=if nl&&l.isEmpty then .nilslice else .list 3 (l.map enc)
theorem z0X (op:Int) (s:List UInt8) (nl:Bool) (l:List Ex):enc (.mk op s nl l)=.agg [.int .i64 op,.str s,lst nl l]:=by
 simp only [enc,lst,encs_map]
theorem sl_lst (nl:Bool) (l:List Ex):Sl 3 (lst nl l) (l.map enc):=by
 unfold lst
 cases l with
 | nil=>cases nl<;>first | exact .nil | exact .list []
 | cons x xs=>simp only [List.isEmpty_cons,Bool.and_false,Bool.false_eq_true,if_false];exact .list _
theorem scalar_lst (nl:Bool) (l:List Ex):AV.scalar (lst nl l)=true:=by
 unfold lst;split<;>rfl
theorem z1C {op:Int} {s:List UInt8} {nl:Bool} {l:List Ex}:([.int .i64 op,.str s,lst nl l]:List AV).all AV.scalar=true:=by
 simp only [List.all_cons,scalar_lst,List.all_nil];rfl
mutual
def Ex.size:Ex→Nat
 | .mk _ _ _ l=>1+sizes l
def sizes:List Ex→Nat
 | []=>0
 | x::xs=>x.size+sizes xs
end
theorem sizes_take {l:List Ex} {i:Nat} {x:Ex} (h:l[i]? =some x):sizes (l.take (i+1))=sizes (l.take i)+x.size:=by
 induction l generalizing i with
 | nil=>simp at h
 | cons y ys ih =>
  cases i with
  | zero=>simp at h;subst h;simp [sizes]
  | succ i=>simp only [List.take_succ_cons,sizes];rw [ih (by simpa using h)];omega
theorem sizes_le:∀ (l:List Ex) (i:Nat),sizes (l.take i)≤sizes l
 | [],i=>by simp
 | x::xs,0=>by simp [sizes]
 | x::xs,i+1=>by simp only [List.take_succ_cons,sizes];have:=sizes_le xs i;omega
theorem size_mem {l:List Ex} {x:Ex} (h:x∈l):x.size≤sizes l:=by
 obtain ⟨i,hi,rfl⟩:=List.getElem_of_mem h
 have h1:=sizes_take (List.getElem?_eq_getElem hi)
 have h2:=sizes_le l (i+1)
 omega
theorem length_sizes:∀ l:List Ex,l.length≤sizes l
 | []=>by simp [sizes]
 | .mk op s nl k::xs=>by simp only [sizes,List.length_cons,Ex.size];have:=length_sizes xs;omega
mutual
def Ex.deep:Ex→Nat
 | .mk _ _ _ l=>deeps l+1
def deeps:List Ex→Nat
 | []=>0
 | x::xs=>max x.deep (deeps xs)
end
theorem deeps_take {l:List Ex} {i:Nat} {x:Ex} (h:l[i]? =some x):deeps (l.take (i+1))=max (deeps (l.take i)) x.deep:=by
 induction l generalizing i with
 | nil=>simp at h
 | cons y ys ih =>
  cases i with
  | zero=>simp at h;subst h;simp [deeps]
  | succ i=>simp only [List.take_succ_cons,deeps];rw [ih (by simpa using h)];omega
mutual
theorem deep_le_size:∀ e:Ex,e.deep≤e.size
 | .mk op s nl l=>by simp only [Ex.deep,Ex.size];have:=deeps_le_sizes l;omega
theorem deeps_le_sizes:∀ l:List Ex,deeps l≤sizes l
 | []=>by simp [deeps,sizes]
 | x::xs=>by simp only [deeps,sizes];have:=deep_le_size x;have:=deeps_le_sizes xs;omega
end
def Ext (H H':Heap):Prop:=∃ G,H'=H++G
theorem Ext.refl (H:Heap):Ext H H:=⟨[],by simp⟩
theorem Ext.app {H H':Heap} (h:Ext H H') (G:Heap):Ext H (H'++G):=by obtain ⟨G',rfl⟩:=h;exact ⟨G'++G,by rw [List.append_assoc]⟩
theorem z0N {H H':Heap} {v:AV} (h:Ext H H') (hp:Plain v):Gives H v (.ret v) H':=by obtain ⟨G,rfl⟩:=h;exact z2P hp
theorem wi_nil {P:Program} {c:IC} {Q:PL} {al:AL} {H:Heap} (h:WI P c Q al (H++[])):WI P c Q al H:=by rwa [List.append_nil] at h
theorem mem_size {op:Int} {s:List UInt8} {nl:Bool} {l:List Ex} {x:Ex} (h:x∈l):SizeOf.sizeOf x<SizeOf.sizeOf (Ex.mk op s nl l):=by
 have:=List.sizeOf_lt_of_mem h
 simp only [Ex.mk.sizeOf_spec];omega
theorem c85 (e:Ex) (he:e.size≤1000000000000) (H:Heap):ACall PP 85 [enc e] H (Just H (.int .i64 e.size)):=by
 match e,he with
 | .mk op s nl l,he =>
  have hs:=sl_lst nl l
  have hl:(l.map enc).length=l.length:=List.length_map _
  have he':1+sizes l≤1000000000000:=by simpa only [Ex.size] using he
  have hll:=length_sizes l
  rw [z0X]
  refine ACall.gives (is85.c1 z0V mixed rfl ?_)
  refine z0J ?_
  refine z1F l.length (fun i al H'=>al=[(1,.ptr (H.length+0) 0),(3,.int .i64 (1+sizes (l.take i):Nat)),(4,.int .i64 i)]∧Ext H H'∧H'[H.length+0]? =some (.cells [.int .i64 op,.str s,lst nl l]))
   ⟨rfl,⟨_,rfl⟩,hp_new⟩ ?_
  rintro i _ H1 hi ⟨rfl,hx,hb⟩
  refine z0J ?_
  refine z0W _ rfl ?_ ?_<;>intro hc
  ·simp only [decide_eq_true_eq] at hc
   obtain ⟨c,hc⟩:=z1D (l:=l) (i:=i) (by omega)
   have hu:=getmap (f:=enc) hc
   have hm:=List.mem_of_getElem? hc
   have hsz:=size_mem hm
   have h1:=sizes_take hc
   have h2:=sizes_le l (i+1)
   obtain ⟨op',s',nl',l'⟩:=c
   rw [z0X] at hu
   have ih:=c85 (.mk op' s' nl' l') (by omega) H1
   rw [z0X] at ih
   refine z0J ?_
   refine z0G rfl ih ?_
   refine z4L rfl rfl (by omega) ?_
   refine z0J ?_
   refine ⟨by omega,?_,hx,hb⟩
   rw [h1,Nat.add_assoc];rfl
  ·simp only [decide_eq_false_iff_not] at hc
   have:i=l.length:=by omega
   subst this
   rw [List.take_length]
   refine z0J ?_
   exact z1G rfl (z0N hx (Plain.int _ _))
termination_by SizeOf.sizeOf e
decreasing_by subst_vars;exact mem_size (by assumption)
theorem c76 (e:Ex) (he:e.size≤1000000000000) (H:Heap):ACall PP 76 [enc e] H (Just H (.int .i64 e.size)):=by
 match e,he with
 | .mk op s nl l,he =>
  have hs:=sl_lst nl l
  have hl:(l.map enc).length=l.length:=List.length_map _
  have he':1+sizes l≤1000000000000:=by simpa only [Ex.size] using he
  have hll:=length_sizes l
  rw [z0X]
  refine ACall.gives (is76.c1 z0V mixed rfl ?_)
  refine z0J ?_
  refine z1F l.length (fun i al H'=>al=[(3,.int .i64 (1+sizes (l.take i):Nat)),(7,lst nl l),(8,.int .i64 (l.map enc).length),(9,.int .i64 i)]∧Ext H H') ⟨rfl,⟨_,rfl⟩⟩ ?_
  rintro i _ H1 hi ⟨rfl,hx⟩
  refine wi_nil ?_
  refine z0J ?_
  refine z0W _ rfl ?_ ?_<;>intro hc
  ·simp only [decide_eq_true_eq] at hc
   obtain ⟨c,hc⟩:=z1D (l:=l) (i:=i) (by omega)
   have hu:=getmap (f:=enc) hc
   have hm:=List.mem_of_getElem? hc
   have hsz:=size_mem hm
   have h1:=sizes_take hc
   have h2:=sizes_le l (i+1)
   obtain ⟨op',s',nl',l'⟩:=c
   rw [z0X] at hu
   have ih:=fun H=>c76 (.mk op' s' nl' l') (by omega) H
   simp only [z0X] at ih
   refine z0J ?_
   refine z0G rfl (ih _) ?_
   refine z4L rfl rfl (by omega) ?_
   refine z0J ?_
   refine ⟨by omega,?_,hx.app _⟩
   rw [h1,Nat.add_assoc];rfl
  ·simp only [decide_eq_false_iff_not] at hc
   have:i=l.length:=by omega
   subst this
   rw [List.take_length]
   refine z0J ?_
   exact z1G rfl (z0N (hx.app _) (Plain.int _ _))
termination_by SizeOf.sizeOf e
decreasing_by subst_vars;exact mem_size (by assumption)
mutual
def Ex.w:Ex→Nat
 | .mk _ s _ l=>1+s.length+ws l
def ws:List Ex→Nat
 | []=>0
 | x::xs=>x.w+ws xs
end
theorem ws_mem:∀ {l:List Ex} {x:Ex},x∈l→x.w≤ws l
 | y::ys,x,h=>by
  simp only [ws]
  rcases List.mem_cons.1 h with rfl | h
  ·omega
  ·have:=ws_mem h;omega
mutual
theorem size_w:∀ e:Ex,e.size≤e.w
 | .mk op s nl l=>by simp only [Ex.size,Ex.w];have:=sizes_ws l;omega
theorem sizes_ws:∀ l:List Ex,sizes l≤ws l
 | []=>by simp [ws,sizes]
 | x::xs=>by simp only [ws,sizes];have:=size_w x;have:=sizes_ws xs;omega
end
abbrev okE (e:Ex):Prop:=e.w≤1000000000000
theorem okE_kid {op:Int} {s:List UInt8} {nl:Bool} {l:List Ex} (h:okE (.mk op s nl l)) {x:Ex} (hx:x∈l):okE x:=by
 unfold okE at h ⊢;simp only [Ex.w] at h;have:=ws_mem hx;omega
theorem okE_s {op:Int} {s:List UInt8} {nl:Bool} {l:List Ex} (h:okE (.mk op s nl l)):okS s:=by
 unfold okE at h;simp only [Ex.w] at h;unfold okS;omega
theorem okE_l {op:Int} {s:List UInt8} {nl:Bool} {l:List Ex} (h:okE (.mk op s nl l)):l.length≤1000000000000:=by
 unfold okE at h;simp only [Ex.w] at h;have:=length_sizes l;have:=sizes_ws l;omega
theorem c86 (e:Ex) (he:okE e) (H:Heap):ACall PP 86 [enc e] H (Just H (.int .i64 e.deep)):=by
 match e,he with
 | .mk op s nl l,he =>
  have hs:=sl_lst nl l
  have hl:(l.map enc).length=l.length:=List.length_map _
  have hll:=okE_l he
  have hd:=deeps_le_sizes l
  have hw:=sizes_ws l
  have hwl:ws l≤1000000000000:=by unfold okE at he;simp only [Ex.w] at he;omega
  rw [z0X]
  refine ACall.gives (is86.c1 z0V mixed rfl ?_)
  refine z0J ?_
  refine z1F l.length (fun i al H'=>al=[(1,.ptr (H.length+0) 0),(3,.int .i64 (deeps (l.take i):Nat)),(4,.int .i64 i)]∧Ext H H'∧H'[H.length+0]? =some (.cells [.int .i64 op,.str s,lst nl l]))
   ⟨rfl,⟨_,rfl⟩,hp_new⟩ ?_
  rintro i _ H1 hi ⟨rfl,hx,hb⟩
  refine z0J ?_
  refine z0W _ rfl ?_ ?_<;>intro hc
  ·simp only [decide_eq_true_eq] at hc
   obtain ⟨c,hc⟩:=z1D (l:=l) (i:=i) (by omega)
   have hu:=getmap (f:=enc) hc
   have hm:=List.mem_of_getElem? hc
   have h1:=deeps_take hc
   obtain ⟨op',s',nl',l'⟩:=c
   rw [z0X] at hu
   have ih:=c86 (.mk op' s' nl' l') (okE_kid he hm) H1
   rw [z0X] at ih
   refine z0J ?_
   refine z0G rfl ih ?_
   refine st_maxn rfl rfl ?_
   refine z0J ?_
   refine ⟨by omega,?_,hx,hb⟩
   rw [h1];rfl
  ·simp only [decide_eq_false_iff_not] at hc
   have:i=l.length:=by omega
   subst this
   rw [List.take_length]
   refine z0J ?_
   exact z1G rfl (z0N hx (Plain.int _ _))
termination_by SizeOf.sizeOf e
decreasing_by subst_vars;exact mem_size (by assumption)
theorem c77 (e:Ex) (he:okE e) (H:Heap):ACall PP 77 [enc e] H (Just H (.int .i64 e.deep)):=by
 match e,he with
 | .mk op s nl l,he =>
  have hs:=sl_lst nl l
  have hl:(l.map enc).length=l.length:=List.length_map _
  have hll:=okE_l he
  have hd:=deeps_le_sizes l
  have hw:=sizes_ws l
  have hwl:ws l≤1000000000000:=by unfold okE at he;simp only [Ex.w] at he;omega
  rw [z0X]
  refine ACall.gives (is77.c1 z0V mixed rfl ?_)
  refine z0J ?_
  refine z1F l.length (fun i al H'=>al=[(3,.int .i64 (deeps (l.take i):Nat)),(7,lst nl l),(8,.int .i64 (l.map enc).length),(9,.int .i64 i)]∧Ext H H') ⟨rfl,⟨_,rfl⟩⟩ ?_
  rintro i _ H1 hi ⟨rfl,hx⟩
  refine wi_nil ?_
  refine z0J ?_
  refine z0W _ rfl ?_ ?_<;>intro hc
  ·simp only [decide_eq_true_eq] at hc
   obtain ⟨c,hc⟩:=z1D (l:=l) (i:=i) (by omega)
   have hu:=getmap (f:=enc) hc
   have hm:=List.mem_of_getElem? hc
   have h1:=deeps_take hc
   obtain ⟨op',s',nl',l'⟩:=c
   rw [z0X] at hu
   have ih:=fun H=>c77 (.mk op' s' nl' l') (okE_kid he hm) H
   simp only [z0X] at ih
   refine z0J ?_
   refine z0G rfl (ih _) ?_
   refine st_maxn rfl rfl ?_
   refine z0J ?_
   refine ⟨by omega,?_,hx.app _⟩
   rw [h1];rfl
  ·simp only [decide_eq_false_iff_not] at hc
   have:i=l.length:=by omega
   subst this
   rw [List.take_length]
   refine z0J ?_
   exact z1G rfl (z0N (hx.app _) (Plain.int _ _))
termination_by SizeOf.sizeOf e
decreasing_by subst_vars;exact mem_size (by assumption)
def kidsS (op:Int):Int × Int × Bool :=
 if op=0∨op=1∨op=2∨op=3 then (0,0,true) else if op=8∨op=9∨op=10∨op=11∨op=12 then (1,1,true) else
 if op=7∨op=13∨op=15 then (2,2,true) else if op=14 then (3,3,true) else if op=4∨op=5∨op=6 then (2,-1,true) else (0,0,false)
theorem ops_all (op:Int):(op=0∨op=1∨op=2∨op=3∨op=4∨op=5∨op=6∨op=7∨op=8∨op=9∨op=10∨op=11∨op=12∨op=13∨op=14∨op=15)∨(op<0∨15<op):=by omega
theorem ne_lit {op:Int} (h:op<0∨15<op):∀ k:Nat,k≤15→(op==(k:Int))=false:=by
 intro k hk;simp;omega
theorem c138 (op:Int) (H:Heap):ACall PP 138 [.int .i64 op] H (Just H (.tuple [.int .i64 (kidsS op).1,.int .i64 (kidsS op).2.1,.bool (kidsS op).2.2])):=by
 have hp:∀ a b c,Plain (.tuple [.int .i64 a,.int .i64 b,.bool c]):=fun a b c=>⟨3,rfl⟩
 refine ACall.gives (is138.c1 z0V mixed rfl ?_)
 rcases ops_all op with h | h
 ·rcases h with rfl | rfl | rfl | rfl | rfl | rfl | rfl | rfl | rfl | rfl | rfl | rfl | rfl | rfl | rfl | rfl <;>
  ·refine z0J ?_
   exact z1G rfl (z2P (hp _ _ _))
 ·have h0:(op==0)=false:=ne_lit h 0 (by omega)
  have h1:(op==1)=false:=ne_lit h 1 (by omega)
  have h2:(op==2)=false:=ne_lit h 2 (by omega)
  have h3:(op==3)=false:=ne_lit h 3 (by omega)
  have h4:(op==4)=false:=ne_lit h 4 (by omega)
  have h5:(op==5)=false:=ne_lit h 5 (by omega)
  have h6:(op==6)=false:=ne_lit h 6 (by omega)
  have h7:(op==7)=false:=ne_lit h 7 (by omega)
  have h8:(op==8)=false:=ne_lit h 8 (by omega)
  have h9:(op==9)=false:=ne_lit h 9 (by omega)
  have h10:(op==10)=false:=ne_lit h 10 (by omega)
  have h11:(op==11)=false:=ne_lit h 11 (by omega)
  have h12:(op==12)=false:=ne_lit h 12 (by omega)
  have h13:(op==13)=false:=ne_lit h 13 (by omega)
  have h14:(op==14)=false:=ne_lit h 14 (by omega)
  have h15:(op==15)=false:=ne_lit h 15 (by omega)
  have e:kidsS op=(0,0,false):=by
   unfold kidsS
   rw [if_neg (by omega),if_neg (by omega),if_neg (by omega),if_neg (by omega),if_neg (by omega)]
  rw [e]
  refine z0J ?_
  exact z1G rfl (z2P (hp _ _ _))
theorem c141 {v:AV} {w:List Ex} (hv:Sl 3 v (w.map enc)) (hw:w.length≤1000000000000) {g:FuncId} {fs cs:List AV} {p:Ex→Bool} (hg:hasBody PP g=true)
  (hp:∀ s∈w,∀ H,ACall PP g (fs++[enc s]++cs) H (Just H (.bool (p s)))) (H:Heap) :
  ACall PP 141 [v,.clo (.func g) fs cs] H (Just H (.int .i64 (idxI (w.findIdx? p)))):=by
 have hl:(w.map enc).length=w.length:=List.length_map _
 refine ACall.gives (is141.c2 z0V mixed rfl ?_)
 refine z0J ?_
 refine z1F w.length (fun i al H'=>al=[(0,v),(1,.clo (.func g) fs cs),(7,.int .i64 (w.map enc).length),(8,.int .i64 i)]∧H'=H++[]∧∀ k c,k<i→w[k]? =some c→p c=false) ⟨rfl,rfl,by omega⟩ ?_
 rintro i _ _ hi ⟨rfl,rfl,hb⟩
 refine z0J ?_
 refine z0W _ rfl ?_ ?_<;>intro hc
 ·simp only [decide_eq_true_eq] at hc
  obtain ⟨c,hc⟩:=z1D (l:=w) (i:=i) (by omega)
  have hu:=getmap (f:=enc) hc
  have hpc':=hp c (List.mem_of_getElem? hc)
  have hpp:∀ k d,k<i+1→w[k]? =some d→p c=false→p d=false:=by
   intro k d hk hd hpc
   rcases Nat.lt_succ_iff_lt_or_eq.1 hk with h | h
   ·exact hb k d h hd
   ·subst h;rw [hc] at hd;injection hd with hd;rw [←hd];exact hpc
  have hfi:p c=true→w.findIdx? p=some i:=by
   intro hpc
   rw [List.findIdx?_eq_some_iff_getElem]
   refine ⟨by omega,?_,?_⟩
   ·rw [List.getElem?_eq_getElem (by omega)] at hc;injection hc with hc;rw [hc];exact hpc
   ·intro j hj;rw [hb j _ hj (List.getElem?_eq_getElem (by omega))];simp
  generalize p c=q at hpc' hpp hfi
  obtain ⟨op',s',nl',l'⟩:=c
  rw [z0X] at hu
  simp only [z0X] at hpc'
  refine z0J ?_
  refine st_callv rfl hg (hpc' _) ?_
  refine z0J ?_
  refine z0W _ rfl ?_ ?_<;>intro hpc
  ·refine z0J ?_
   rw [hfi hpc]
   exact fr
  ·refine z0J ?_
   exact ⟨by omega,rfl,rfl,fun k d hk hd=>hpp k d hk hd hpc⟩
 ·simp only [decide_eq_false_iff_not] at hc
  refine z0J ?_
  have:w.findIdx? p=none:=by
   rw [List.findIdx?_eq_none_iff]
   intro x hx
   obtain ⟨k,hk,rfl⟩:=List.getElem_of_mem hx
   exact hb k _ (by omega) (List.getElem?_eq_getElem hk)
  rw [this]
  exact fr
theorem c82 {v:AV} {w:List Ex} (hv:Sl 3 v (w.map enc)) (hw:w.length≤1000000000000) {g:FuncId} {fs cs:List AV} {p:Ex→Bool} (hg:hasBody PP g=true)
  (hp:∀ s∈w,∀ H,ACall PP g (fs++[enc s]++cs) H (Just H (.bool (p s)))) (H:Heap) :
  ACall PP 82 [v,.clo (.func g) fs cs] H (Just H (.bool (w.any p))):=by
 refine ACall.gives (is82.c2 z0V mixed rfl ?_)
 refine z0J ?_
 refine z0G rfl (c141 hv hw hg hp _) ?_
 refine z0J ?_
 rw [ge0_find]
 exact fr
def mixesS (op:Int):Bool:=(op==15)||(op==13)
mutual
def Ex.odd:Ex→Bool
 | .mk op _ _ l=>mixesS op||odds l
def odds:List Ex→Bool
 | []=>false
 | x::xs=>x.odd||odds xs
end
theorem odds_any:∀ l:List Ex,odds l=l.any Ex.odd
 | []=>rfl
 | x::xs=>by simp only [odds,List.any_cons,odds_any xs]
theorem c41 (e:Ex) (he:okE e) (H:Heap):ACall PP 41 [enc e] H (Just H (.bool e.odd)):=by
 match e,he with
 | .mk op s nl l,he =>
  have hs:=sl_lst nl l
  have hp:∀ x∈l,∀ H,ACall PP 41 ([]++[enc x]++[]) H (Just H (.bool (x.odd))):=fun x hx H=>c41 x (okE_kid he hx) H
  have k:=fun H=>c82 hs (okE_l he) (fs:=[]) (cs:=[]) is41.hasBody hp H
  rw [z0X]
  refine ACall.gives (is41.c1 z0V mixed rfl ?_)
  refine z0J ?_
  cases h1:(op==15)
  ·refine z0J ?_
   cases h2:(op==13)
   ·refine z0J ?_
    refine z0G rfl (k _) ?_
    refine z0J ?_
    rw [show (Ex.mk op s nl l).odd=l.any Ex.odd by simp only [Ex.odd,mixesS,h1,h2,odds_any,Bool.false_or]]
    exact fr
   ·refine z0J ?_
    rw [show (Ex.mk op s nl l).odd=true by simp only [Ex.odd,mixesS,h1,h2];rfl]
    exact fr
  ·refine z0J ?_
   rw [show (Ex.mk op s nl l).odd=true by simp only [Ex.odd,mixesS,h1];rfl]
   exact fr
termination_by SizeOf.sizeOf e
decreasing_by exact mem_size (by assumption)
theorem c44 (e:Ex) (he:okE e) (H:Heap):ACall PP 44 [enc e] H (Just H (.bool e.odd)):=by
 match e,he with
 | .mk op s nl l,he =>
  have hs:=sl_lst nl l
  have hl:(l.map enc).length=l.length:=List.length_map _
  have hll:=okE_l he
  rw [z0X]
  refine ACall.gives (is44.c1 z0V mixed rfl ?_)
  have rest:(op==15)=false→(op==13)=false→(Ex.mk op s nl l).odd=l.any Ex.odd:=by
   intro h1 h2;simp only [Ex.odd,mixesS,h1,h2,odds_any,Bool.false_or]
  refine z0J ?_
  cases h1:(op==15)
  ·refine z0J ?_
   cases h2:(op==13)
   ·rw [rest h1 h2]
    refine z0J ?_
    refine z1F l.length (fun i al H'=>al=[(1,.ptr (H.length+0) 0),(3,.int .i64 i)]∧Ext H H'∧H'[H.length+0]? =some (.cells [.int .i64 op,.str s,lst nl l])∧(l.take i).any Ex.odd=false)
     ⟨rfl,⟨_,rfl⟩,hp_new,by simp⟩ ?_
    rintro i _ H1 hi ⟨rfl,hx,hb,hod⟩
    refine z0J ?_
    refine z0W _ rfl ?_ ?_<;>intro hc
    ·simp only [decide_eq_true_eq] at hc
     obtain ⟨c,hc⟩:=z1D (l:=l) (i:=i) (by omega)
     have hu:=getmap (f:=enc) hc
     have hm:=List.mem_of_getElem? hc
     have ht:=z1P (p:=Ex.odd) hc
     have hany:=z2R (p:=Ex.odd) hc
     obtain ⟨op',s',nl',l'⟩:=c
     rw [z0X] at hu
     have ih:=c44 (.mk op' s' nl' l') (okE_kid he hm) H1
     rw [z0X] at ih
     refine z0J ?_
     refine z0G rfl ih ?_
     refine z0J ?_
     refine z0W _ rfl ?_ ?_<;>intro hq
     ·rw [hany hq]
      refine z0J ?_
      exact z1G rfl (z0N hx (Plain.bool _))
     ·refine z0J ?_
      refine ⟨by omega,rfl,hx,hb,?_⟩
      rw [ht,hod,hq];rfl
    ·simp only [decide_eq_false_iff_not] at hc
     have:i=l.length:=by omega
     subst this
     rw [List.take_length] at hod
     rw [hod]
     refine z0J ?_
     exact z1G rfl (z0N hx (Plain.bool _))
   ·refine z0J ?_
    rw [show (Ex.mk op s nl l).odd=true by simp only [Ex.odd,mixesS,h1,h2];rfl]
    exact fr
  ·refine z0J ?_
   rw [show (Ex.mk op s nl l).odd=true by simp only [Ex.odd,mixesS,h1];rfl]
   exact fr
termination_by SizeOf.sizeOf e
decreasing_by subst_vars;exact mem_size (by assumption)
def badNode (k:Int × Int × Bool) (op:Int) (s:List UInt8) (n:Nat):Bool :=
 !k.2.2||decide ((n:Int)<k.1)||(decide (k.2.1≥0)&&decide ((n:Int)>k.2.1))||((op != 0) && !(s==[]))
def badSym (op:Int) (s:List UInt8):Bool:=(op==0)&&(vword [s] != 0)
mutual
def Ex.right:Ex→Bool
 | .mk op s _ l=>!badNode (kidsS op) op s l.length && !badSym op s&&rights l
def rights:List Ex→Bool
 | []=>true
 | x::xs=>x.right&&rights xs
end
theorem rights_any:∀ l:List Ex,(!(l.any fun x=>!x.right))=rights l
 | []=>rfl
 | x::xs=>by simp only [rights,List.any_cons,←rights_any xs,Bool.not_or,Bool.not_not]
theorem c139 {e:Ex} {b:Bool} (h:∀ H,ACall PP 78 [enc e] H (Just H (.bool b))) (H:Heap):ACall PP 139 [enc e] H (Just H (.bool (!b))):=by
 obtain ⟨op,s,nl,l⟩:=e
 rw [z0X] at h ⊢
 refine ACall.gives (is139.c1 z0V mixed rfl ?_)
 refine z0J ?_
 refine z0G rfl (h _) ?_
 refine z0J ?_
 exact fr
theorem okW1 {s:List UInt8} (h:okS s):okW [s]:=⟨by simp,fun x hx=>by rw [List.mem_singleton] at hx;subst hx;exact h⟩
theorem c78 (e:Ex) (he:okE e) (H:Heap):ACall PP 78 [enc e] H (Just H (.bool e.right)):=by
 match e,he with
 | .mk op s nl l,he =>
  have hs:=sl_lst nl l
  have hl:(l.map enc).length=l.length:=List.length_map _
  have hp:∀ x∈l,∀ H,ACall PP 139 ([]++[enc x]++[]) H (Just H (.bool (!x.right))):=fun x hx H=>c139 (fun H=>c78 x (okE_kid he hx) H) H
  have k82:=fun H=>c82 hs (okE_l he) (fs:=[]) (cs:=[]) is139.hasBody hp H
  have k38:=fun H=>c38 (w:=[s]) (.list _) (okW1 (okE_s he)) H
  have hr:(Ex.mk op s nl l).right=(!badNode (kidsS op) op s l.length && !badSym op s && !(l.any fun x=>!x.right)):=by rw [rights_any];rfl
  have hbn:∀ k,badNode k op s l.length=badNode k op s (l.map enc).length:=fun k=>by rw [hl]
  rw [z0X,hr,hbn]
  refine ACall.gives (is78.c1 z0V mixed rfl ?_)
  refine z0J ?_
  refine z0G rfl (c138 op _) ?_
  generalize kidsS op=k
  obtain ⟨f,t,b⟩:=k
  refine z0J ?_
  refine z1Y [(1,.ptr (H.length+0) 0),(42,.bool (badNode (f,t,b) op s (l.map enc).length))] (H++[.cells [.int .i64 op,.str s,lst nl l]]) ?_ ?_
  ·cases b
   ·refine z0J ?_
    exact z0S rfl rfl
   ·refine z0J ?_
    cases h2:decide (((l.map enc).length:Int)<f)
    ·have e0:∀ b,(badNode (f,t,true) op s (l.map enc).length=b↔((decide (t≥0)&&decide (((l.map enc).length:Int)>t))||((op != 0) && !(s==[])))=b):=by
      intro b;simp only [badNode,h2];simp
     refine z0J ?_
     cases h3:decide (t≥0)
     ·refine z0J ?_
      cases h5:(op != 0)
      ·refine z0J ?_
       exact z0S (by rw [(e0 false).2 (by simp only [h3,h5];rfl)];rfl) rfl
      ·refine z0J ?_
       exact z0S (by rw [(e0 (!(s==[]))).2 (by simp only [h3,h5];simp)];rfl) rfl
     ·refine z0J ?_
      cases h4:decide (((l.map enc).length:Int)>t)
      ·refine z0J ?_
       cases h5:(op != 0)
       ·refine z0J ?_
        exact z0S (by rw [(e0 false).2 (by simp only [h3,h4,h5];rfl)];rfl) rfl
       ·refine z0J ?_
        exact z0S (by rw [(e0 (!(s==[]))).2 (by simp only [h3,h4,h5];simp)];rfl) rfl
      ·refine z0J ?_
       exact z0S (by rw [(e0 true).2 (by simp only [h3,h4];simp)];rfl) rfl
    ·refine z0J ?_
     exact z0S (by rw [show badNode (f,t,true) op s (l.map enc).length=true by simp only [badNode,h2];simp];rfl) rfl
  refine nx_n ?_
  refine z0W _ rfl ?_ ?_<;>intro hb
  ·rw [hb]
   refine z0J ?_
   exact fr
  ·rw [hb]
   refine z0J ?_
   cases h1:(op==0)
   ·refine z0J ?_
    refine z0G rfl (k82 _) ?_
    refine z0J ?_
    rw [show badSym op s=false by simp only [badSym,h1];rfl]
    exact fr
   ·refine z0J ?_
    refine st_slice rfl rfl rfl ?_
    refine st_yes rfl ?_
    refine st_callS (n:=1) (G':=[.cells [.int .i64 op,.str s,lst nl l],.dead]) (cs:=[.str s]) (args:=[.sl (H.length+1) 0 1 1]) (args':=[.list 1 [.str s]]) ?_ ?_ ?_ (seal1 (sealStrs (H.length+1) [s])) ?_ (k38 _) ?_
    ·rfl
    ·rfl
    ·rfl
    ·rfl
    refine z0J ?_
    refine z0W _ rfl ?_ ?_<;>intro hv
    ·rw [show badSym op s=true by simp only [badSym,h1,hv];rfl]
     refine z0J ?_
     exact fr
    ·rw [show badSym op s=false by simp only [badSym,h1,hv];rfl]
     refine z0J ?_
     refine z0G rfl (k82 _) ?_
     refine z0J ?_
     exact fr
termination_by SizeOf.sizeOf e
decreasing_by exact mem_size (by assumption)
def vexpr (e:Ex):Int:=if decide ((e.size:Int)>40)||decide ((e.deep:Int)>12) then 3 else if !e.right then 1 else 0
theorem c39 (e:Ex) (he:okE e) (H:Heap):ACall PP 39 [enc e] H (Just H (.int .i64 (vexpr e))):=by
 have k76:=fun H=>c76 e (Nat.le_trans (size_w e) he) H
 have k77:=fun H=>c77 e he H
 have k78:=fun H=>c78 e he H
 have hv:vexpr e=if decide ((e.size:Int)>40)||decide ((e.deep:Int)>12) then 3 else if !e.right then 1 else 0:=rfl
 rw [hv]
 generalize e.size=n1 at *
 generalize e.deep=n2 at *
 generalize e.right=b at *
 obtain ⟨op,s,nl,l⟩:=e
 rw [z0X] at *
 refine ACall.gives (is39.c1 z0V mixed rfl ?_)
 refine z0J ?_
 refine z0G rfl (k76 _) ?_
 refine z0J ?_
 cases h1:decide ((n1:Int)>40)
 ·refine z0J ?_
  refine z0G rfl (k77 _) ?_
  refine z0J ?_
  cases h2:decide ((n2:Int)>12)
  ·refine z0J ?_
   refine z0G rfl (k78 _) ?_
   refine z0J ?_
   cases b
   ·refine z0J ?_
    exact fr
   ·refine z0J ?_
    exact fr
  ·refine z0J ?_
   exact fr
 ·refine z0J ?_
  exact fr
end Go.Ab
