/- Part 29 of the proof. -/
import Derived.Test.YtgpnlpieipoogaaGreatDoorA24
import Derived.Test.YtgpnlpieipoogaaGreatDoorA28
set_option linter.unusedVariables false
set_option linter.unusedSimpArgs false
namespace Go.Ab
open Go
set_option maxRecDepth 100000
noncomputable abbrev PP:Program:=Go.Proofs.Tryz.prog
def isLongS (s:List UInt8):Bool:=decide ((s.length:Int)>16)
theorem c73 (s:List UInt8) (H:Heap):ACall PP 68 [.str s] H (Just H (.bool (isLongS s))):=by
 refine ACall.gives (is68.c1 z0W mixed rfl ?_)
 refine z0G ?_
 exact z1G rfl (z2T (Plain.bool _))
def badB (c:UInt8):Bool:=decide ((c.toNat:Int)<33)||decide ((c.toNat:Int)>126)||((c.toNat:Int)==60)||((c.toNat:Int)==62)
def isSym (s:List UInt8):Bool:=!(s.any badB) && !(s==[])
theorem z2H {α:Type} {p:α→Bool} {s:List α} {i:Nat} {c:α} (hc:s[i]? =some c):(s.take (i+1)).any p=((s.take i).any p||p c):=by
 rw [List.take_add_one,hc]
 simp
theorem c75 (s:List UInt8) (hs:s.length≤1000000000000) (H:Heap):ACall PP 70 [.str s] H (Just H (.bool (isSym s))):=by
 refine ACall.gives (is70.c1 z0W mixed rfl ?_)
 refine z0G ?_
 refine z1B s.length (fun i al H'=>al=[(0,.str s),(5,.int .i64 s.length),(6,.int .i64 i)]∧H'=H++[]∧(s.take i).any badB=false) ⟨rfl,rfl,by simp⟩ ?_
 rintro i _ _ hi ⟨rfl,rfl,hb⟩
 refine z0G ?_
 refine z0T _ rfl ?_ ?_<;>intro hc
 ·simp only [decide_eq_true_eq] at hc
  obtain ⟨c,hc⟩:∃ c,s[i]? =some c:=⟨s[i]'(by omega),List.getElem?_eq_getElem (by omega)⟩
  have hbad:badB c=true→isSym s=false:=by
   intro h
   have:s.any badB=true:=List.any_eq_true.2 ⟨c,List.mem_of_getElem? hc,h⟩
   simp [isSym,this]
  refine z0G ?_
  cases h1:decide ((c.toNat:Int)<33)
  ·refine z0G ?_
   cases h2:decide ((c.toNat:Int)>126)
   ·refine z0G ?_
    cases h3:((c.toNat:Int)==60)
    ·refine z0G ?_
     cases h4:((c.toNat:Int)==62)
     ·refine z0G ?_
      refine ⟨by omega,rfl,rfl,?_⟩
      rw [z2H hc,hb];simp [badB,h1,h2,h3,h4]
     ·refine z0G ?_
      rw [hbad (by simp [badB,h1,h2,h3,h4])]
      exact z1G rfl (z2T (Plain.bool _))
    ·refine z0G ?_
     rw [hbad (by simp [badB,h1,h2,h3])]
     exact z1G rfl (z2T (Plain.bool _))
   ·refine z0G ?_
    rw [hbad (by simp [badB,h1,h2])]
    exact z1G rfl (z2T (Plain.bool _))
  ·refine z0G ?_
   rw [hbad (by simp [badB,h1])]
   exact z1G rfl (z2T (Plain.bool _))
 ·simp only [decide_eq_false_iff_not] at hc
  have:i=s.length:=by omega
  subst this
  rw [List.take_length] at hb
  refine z0G ?_
  have:isSym s = !(s==[]):=by simp [isSym,hb]
  rw [this]
  exact z1G rfl (z2T (Plain.bool _))
abbrev okS (s:List UInt8):Prop:=s.length≤1000000000000
abbrev okW (w:List (List UInt8)):Prop:=w.length≤1000000000000∧∀ s∈w,okS s
theorem getmap {α β:Type} {f:α→β} {l:List α} {i:Nat} {c:α} (h:l[i]? =some c):(l.map f)[i]? =some (f c):=by rw [List.getElem?_map,h];rfl
theorem z1E {α:Type} {l:List α} {i:Nat} (h:i<l.length):∃ c,l[i]? =some c:=⟨l[i],List.getElem?_eq_getElem h⟩
theorem z3U {α:Type} {p:α→Bool} {l:List α} {i:Nat} {c:α} (h:l[i]? =some c) (hp:p c=true):l.any p=true:=List.any_eq_true.2 ⟨c,List.mem_of_getElem? h,hp⟩
theorem c74 (s:List UInt8) (hs:okS s) (H:Heap):ACall PP 69 [.str s] H (Just H (.bool (!isSym s))):=by
 refine ACall.gives (is69.c1 z0W mixed rfl ?_)
 refine z0G ?_
 refine z0F rfl (c75 s hs _) ?_
 refine z0G ?_
 exact fr
def idxI:Option Nat→Int
 | some i=>i
 | none=>-1
theorem c137 {v:AV} {w:List (List UInt8)} (hv:Sl 1 v (w.map .str)) (hw:w.length≤1000000000000) {g:FuncId} {fs cs:List AV} {p:List UInt8→Bool} (hg:hasBody PP g=true)
  (hp:∀ s∈w,∀ H,ACall PP g (fs++[.str s]++cs) H (Just H (.bool (p s)))) (H:Heap) :
  ACall PP 111 [v,.clo (.func g) fs cs] H (Just H (.int .i64 (idxI (w.findIdx? p)))):=by
 have hl:(w.map AV.str).length=w.length:=List.length_map _
 refine ACall.gives (is111.c2 z0W mixed rfl ?_)
 refine z0G ?_
 refine z1B w.length (fun i al H'=>al=[(0,v),(1,.clo (.func g) fs cs),(7,.int .i64 (w.map AV.str).length),(8,.int .i64 i)]∧H'=H++[]∧∀ k c,k<i→w[k]? =some c→p c=false) ⟨rfl,rfl,by omega⟩ ?_
 rintro i _ _ hi ⟨rfl,rfl,hb⟩
 refine z0G ?_
 refine z0T _ rfl ?_ ?_<;>intro hc
 ·simp only [decide_eq_true_eq] at hc
  obtain ⟨c,hc⟩:=z1E (l:=w) (i:=i) (by omega)
  have hu:=getmap (f:=AV.str) hc
  refine z0G ?_
  refine st_callv rfl hg (hp c (List.mem_of_getElem? hc) _) ?_
  refine z0G ?_
  refine z0T _ rfl ?_ ?_<;>intro hpc
  ·refine z0G ?_
   have:w.findIdx? p=some i:=by
    rw [List.findIdx?_eq_some_iff_getElem]
    refine ⟨by omega,?_,?_⟩
    ·rw [List.getElem?_eq_getElem (by omega)] at hc;injection hc with hc;rw [hc];exact hpc
    ·intro j hj;rw [hb j _ hj (List.getElem?_eq_getElem (by omega))];simp
   rw [this]
   exact fr
  ·refine z0G ?_
   refine ⟨by omega,rfl,rfl,?_⟩
   intro k d hk hd
   rcases Nat.lt_succ_iff_lt_or_eq.1 hk with h | h
   ·exact hb k d h hd
   ·subst h;rw [hc] at hd;injection hd with hd;rw [←hd];exact hpc
 ·simp only [decide_eq_false_iff_not] at hc
  refine z0G ?_
  have:w.findIdx? p=none:=by
   rw [List.findIdx?_eq_none_iff]
   intro x hx
   obtain ⟨k,hk,rfl⟩:=List.getElem_of_mem hx
   exact hb k _ (by omega) (List.getElem?_eq_getElem hk)
  rw [this]
  exact fr
theorem ge0_find {α:Type} {p:α→Bool} (l:List α):decide (idxI (l.findIdx? p)≥0)=l.any p:=by
 cases h:l.findIdx? p with
 | none =>
  rw [List.findIdx?_eq_none_iff] at h
  have:l.any p=false:=by rw [List.any_eq_false];intro x hx;rw [h x hx];simp
  rw [this];rfl
 | some i =>
  rw [List.findIdx?_eq_some_iff_getElem] at h
  obtain ⟨hi,hp,_⟩:=h
  have:l.any p=true:=List.any_eq_true.2 ⟨_,List.getElem_mem hi,hp⟩
  rw [this];simp [idxI]
theorem c72 {v:AV} {w:List (List UInt8)} (hv:Sl 1 v (w.map .str)) (hw:w.length≤1000000000000) {g:FuncId} {fs cs:List AV} {p:List UInt8→Bool} (hg:hasBody PP g=true)
  (hp:∀ s∈w,∀ H,ACall PP g (fs++[.str s]++cs) H (Just H (.bool (p s)))) (H:Heap) :
  ACall PP 67 [v,.clo (.func g) fs cs] H (Just H (.bool (w.any p))):=by
 refine ACall.gives (is67.c2 z0W mixed rfl ?_)
 refine z0G ?_
 refine z0F rfl (c137 hv hw hg hp _) ?_
 refine z0G ?_
 rw [ge0_find]
 exact fr
def vword (w:List (List UInt8)):Int:=if decide ((w.length:Int)>60)||w.any isLongS then 3 else if w.any (fun s=>!isSym s) then 1 else 0
theorem b73:hasBody PP 68=true:=is68.hasBody
theorem b74:hasBody PP 69=true:=is69.hasBody
theorem c38 {v:AV} {w:List (List UInt8)} (hv:Sl 1 v (w.map .str)) (hw:okW w) (H:Heap):ACall PP 27 [v] H (Just H (.int .i64 (vword w))):=by
 have hl:(w.map AV.str).length=w.length:=List.length_map _
 have k73:=c72 hv hw.1 (fs:=[]) (cs:=[]) b73 (p:=isLongS) (fun s _ H=>c73 s H)
 have k74:=c72 hv hw.1 (fs:=[]) (cs:=[]) b74 (p:=fun s=>!isSym s) (fun s h H=>c74 s (hw.2 s h) H)
 have e0:decide (((w.map AV.str).length:Int)>60)=decide ((w.length:Int)>60):=by rw [hl]
 refine ACall.gives (is27.c1 z0W mixed rfl ?_)
 refine z0G ?_
 rw [e0]
 cases h1:decide ((w.length:Int)>60)
 ·refine z0G ?_
  refine z0F rfl (k73 _) ?_
  refine z0G ?_
  cases h2:w.any isLongS
  ·refine z0G ?_
   refine z0F rfl (k74 _) ?_
   refine z0G ?_
   cases h3:w.any (fun s=>!isSym s)
   ·refine z0G ?_
    rw [show vword w=0 by simp only [vword,h1,h2,h3];rfl]
    exact fr
   ·refine z0G ?_
    rw [show vword w=1 by simp only [vword,h1,h2,h3];rfl]
    exact fr
  ·refine z0G ?_
   rw [show vword w=3 by simp only [vword,h1,h2];rfl]
   exact fr
 ·refine z0G ?_
  rw [show vword w=3 by simp only [vword,h1];rfl]
  exact fr
inductive Ex where
 | mk (op:Int) (s:List UInt8) (nl:Bool) (l:List Ex)
mutual
def enc:Ex→AV
 | .mk op s nl l=>.agg [.int .i64 op,.str s,if nl&&l.isEmpty then .nilslice else .list 3 (encs l)]
def encs:List Ex→List AV
 | []=>[]
 | x::xs=>enc x::encs xs
end
theorem encs_map:∀ l:List Ex,encs l=l.map enc
 | []=>rfl
 | x::xs=>by simp only [encs,encs_map xs,List.map_cons]
def lst (nl:Bool) (l:List Ex):AV:=if nl&&l.isEmpty then .nilslice else .list 3 (l.map enc)
theorem z0U (op:Int) (s:List UInt8) (nl:Bool) (l:List Ex):enc (.mk op s nl l)=.agg [.int .i64 op,.str s,lst nl l]:=by
 simp only [enc,lst,encs_map]
theorem sl_lst (nl:Bool) (l:List Ex):Sl 3 (lst nl l) (l.map enc):=by
 unfold lst
 cases l with
 | nil=>cases nl<;>first | exact .nil | exact .list []
 | cons x xs=>simp only [List.isEmpty_cons,Bool.and_false,Bool.false_eq_true,if_false];exact .list _
theorem scalar_lst (nl:Bool) (l:List Ex):AV.scalar (lst nl l)=true:=by
 unfold lst;split<;>rfl
theorem z1C {op:Int} {s:List UInt8} {nl:Bool} {l:List Ex}:([.int .i64 op,.str s,lst nl l]:List AV).all AV.scalar=true:=by
 simp only [List.all_cons,scalar_lst,List.all_nil];rfl
mutual
def Ex.size:Ex→Nat
 | .mk _ _ _ l=>1+sizes l
def sizes:List Ex→Nat
 | []=>0
 | x::xs=>x.size+sizes xs
end
theorem sizes_take {l:List Ex} {i:Nat} {x:Ex} (h:l[i]? =some x):sizes (l.take (i+1))=sizes (l.take i)+x.size:=by
 induction l generalizing i with
 | nil=>simp at h
 | cons y ys ih =>
  cases i with
  | zero=>simp at h;subst h;simp [sizes]
  | succ i=>simp only [List.take_succ_cons,sizes];rw [ih (by simpa using h)];omega
theorem sizes_le:∀ (l:List Ex) (i:Nat),sizes (l.take i)≤sizes l
 | [],i=>by simp
 | x::xs,0=>by simp [sizes]
 | x::xs,i+1=>by simp only [List.take_succ_cons,sizes];have:=sizes_le xs i;omega
theorem size_mem {l:List Ex} {x:Ex} (h:x∈l):x.size≤sizes l:=by
 obtain ⟨i,hi,rfl⟩:=List.getElem_of_mem h
 have h1:=sizes_take (List.getElem?_eq_getElem hi)
 have h2:=sizes_le l (i+1)
 omega
theorem length_sizes:∀ l:List Ex,l.length≤sizes l
 | []=>by simp [sizes]
 | .mk op s nl k::xs=>by simp only [sizes,List.length_cons,Ex.size];have:=length_sizes xs;omega
mutual
def Ex.deep:Ex→Nat
 | .mk _ _ _ l=>deeps l+1
def deeps:List Ex→Nat
 | []=>0
 | x::xs=>max x.deep (deeps xs)
end
theorem deeps_take {l:List Ex} {i:Nat} {x:Ex} (h:l[i]? =some x):deeps (l.take (i+1))=max (deeps (l.take i)) x.deep:=by
 induction l generalizing i with
 | nil=>simp at h
 | cons y ys ih =>
  cases i with
  | zero=>simp at h;subst h;simp [deeps]
  | succ i=>simp only [List.take_succ_cons,deeps];rw [ih (by simpa using h)];omega
mutual
theorem deep_le_size:∀ e:Ex,e.deep≤e.size
 | .mk op s nl l=>by simp only [Ex.deep,Ex.size];have:=deeps_le_sizes l;omega
theorem deeps_le_sizes:∀ l:List Ex,deeps l≤sizes l
 | []=>by simp [deeps,sizes]
 | x::xs=>by simp only [deeps,sizes];have:=deep_le_size x;have:=deeps_le_sizes xs;omega
end
def Ext (H H':Heap):Prop:=∃ G,H'=H++G
theorem Ext.refl (H:Heap):Ext H H:=⟨[],by simp⟩
theorem Ext.app {H H':Heap} (h:Ext H H') (G:Heap):Ext H (H'++G):=by obtain ⟨G',rfl⟩:=h;exact ⟨G'++G,by rw [List.append_assoc]⟩
theorem z0M {H H':Heap} {v:AV} (h:Ext H H') (hp:Plain v):Gives H v (.ret v) H':=by obtain ⟨G,rfl⟩:=h;exact z2T hp
theorem wi_nil {P:Program} {c:IC} {Q:PL} {al:AL} {H:Heap} (h:WI P c Q al (H++[])):WI P c Q al H:=by rwa [List.append_nil] at h
theorem mem_size {op:Int} {s:List UInt8} {nl:Bool} {l:List Ex} {x:Ex} (h:x∈l):SizeOf.sizeOf x<SizeOf.sizeOf (Ex.mk op s nl l):=by
 have:=List.sizeOf_lt_of_mem h
 simp only [Ex.mk.sizeOf_spec];omega
theorem c76 (e:Ex) (he:e.size≤1000000000000) (H:Heap):ACall PP 71 [enc e] H (Just H (.int .i64 e.size)):=by
 match e,he with
 | .mk op s nl l,he =>
  have hs:=sl_lst nl l
  have hl:(l.map enc).length=l.length:=List.length_map _
  have he':1+sizes l≤1000000000000:=by simpa only [Ex.size] using he
  have hll:=length_sizes l
  rw [z0U]
  refine ACall.gives (is71.c1 z0W mixed rfl ?_)
  refine z0G ?_
  refine z1B l.length (fun i al H'=>al=[(3,.int .i64 (1+sizes (l.take i):Nat)),(7,lst nl l),(8,.int .i64 (l.map enc).length),(9,.int .i64 i)]∧Ext H H') ⟨rfl,⟨_,rfl⟩⟩ ?_
  rintro i _ H1 hi ⟨rfl,hx⟩
  refine wi_nil ?_
  refine z0G ?_
  refine z0T _ rfl ?_ ?_<;>intro hc
  ·simp only [decide_eq_true_eq] at hc
   obtain ⟨c,hc⟩:=z1E (l:=l) (i:=i) (by omega)
   have hu:=getmap (f:=enc) hc
   have hm:=List.mem_of_getElem? hc
   have hsz:=size_mem hm
   have h1:=sizes_take hc
   have h2:=sizes_le l (i+1)
   obtain ⟨op',s',nl',l'⟩:=c
   rw [z0U] at hu
   have ih:=fun H=>c76 (.mk op' s' nl' l') (by omega) H
   simp only [z0U] at ih
   refine z0G ?_
   refine z0F rfl (ih _) ?_
   refine z2J rfl rfl (by omega) ?_
   refine z0G ?_
   refine ⟨by omega,?_,hx.app _⟩
   rw [h1,Nat.add_assoc];rfl
  ·simp only [decide_eq_false_iff_not] at hc
   have:i=l.length:=by omega
   subst this
   rw [List.take_length]
   refine z0G ?_
   exact z1G rfl (z0M (hx.app _) (Plain.int _ _))
termination_by SizeOf.sizeOf e
decreasing_by subst_vars;exact mem_size (by assumption)
mutual
def Ex.w:Ex→Nat
 | .mk _ s _ l=>1+s.length+ws l
def ws:List Ex→Nat
 | []=>0
 | x::xs=>x.w+ws xs
end
theorem ws_mem:∀ {l:List Ex} {x:Ex},x∈l→x.w≤ws l
 | y::ys,x,h=>by
  simp only [ws]
  rcases List.mem_cons.1 h with rfl | h
  ·omega
  ·have:=ws_mem h;omega
mutual
theorem size_w:∀ e:Ex,e.size≤e.w
 | .mk op s nl l=>by simp only [Ex.size,Ex.w];have:=sizes_ws l;omega
theorem sizes_ws:∀ l:List Ex,sizes l≤ws l
 | []=>by simp [ws,sizes]
 | x::xs=>by simp only [ws,sizes];have:=size_w x;have:=sizes_ws xs;omega
end
abbrev okE (e:Ex):Prop:=e.w≤1000000000000
theorem okE_kid {op:Int} {s:List UInt8} {nl:Bool} {l:List Ex} (h:okE (.mk op s nl l)) {x:Ex} (hx:x∈l):okE x:=by
 unfold okE at h ⊢;simp only [Ex.w] at h;have:=ws_mem hx;omega
theorem okE_s {op:Int} {s:List UInt8} {nl:Bool} {l:List Ex} (h:okE (.mk op s nl l)):okS s:=by
 unfold okE at h;simp only [Ex.w] at h;unfold okS;omega
theorem okE_l {op:Int} {s:List UInt8} {nl:Bool} {l:List Ex} (h:okE (.mk op s nl l)):l.length≤1000000000000:=by
 unfold okE at h;simp only [Ex.w] at h;have:=length_sizes l;have:=sizes_ws l;omega
theorem c77 (e:Ex) (he:okE e) (H:Heap):ACall PP 72 [enc e] H (Just H (.int .i64 e.deep)):=by
 match e,he with
 | .mk op s nl l,he =>
  have hs:=sl_lst nl l
  have hl:(l.map enc).length=l.length:=List.length_map _
  have hll:=okE_l he
  have hd:=deeps_le_sizes l
  have hw:=sizes_ws l
  have hwl:ws l≤1000000000000:=by unfold okE at he;simp only [Ex.w] at he;omega
  rw [z0U]
  refine ACall.gives (is72.c1 z0W mixed rfl ?_)
  refine z0G ?_
  refine z1B l.length (fun i al H'=>al=[(3,.int .i64 (deeps (l.take i):Nat)),(7,lst nl l),(8,.int .i64 (l.map enc).length),(9,.int .i64 i)]∧Ext H H') ⟨rfl,⟨_,rfl⟩⟩ ?_
  rintro i _ H1 hi ⟨rfl,hx⟩
  refine wi_nil ?_
  refine z0G ?_
  refine z0T _ rfl ?_ ?_<;>intro hc
  ·simp only [decide_eq_true_eq] at hc
   obtain ⟨c,hc⟩:=z1E (l:=l) (i:=i) (by omega)
   have hu:=getmap (f:=enc) hc
   have hm:=List.mem_of_getElem? hc
   have h1:=deeps_take hc
   obtain ⟨op',s',nl',l'⟩:=c
   rw [z0U] at hu
   have ih:=fun H=>c77 (.mk op' s' nl' l') (okE_kid he hm) H
   simp only [z0U] at ih
   refine z0G ?_
   refine z0F rfl (ih _) ?_
   refine st_maxn rfl rfl ?_
   refine z0G ?_
   refine ⟨by omega,?_,hx.app _⟩
   rw [h1];rfl
  ·simp only [decide_eq_false_iff_not] at hc
   have:i=l.length:=by omega
   subst this
   rw [List.take_length]
   refine z0G ?_
   exact z1G rfl (z0M (hx.app _) (Plain.int _ _))
termination_by SizeOf.sizeOf e
decreasing_by subst_vars;exact mem_size (by assumption)
def kidsS (op:Int):Int × Int × Bool :=
 if op=0∨op=1∨op=2∨op=3 then (0,0,true) else if op=8∨op=9∨op=10∨op=11∨op=12 then (1,1,true) else
 if op=7∨op=13∨op=15 then (2,2,true) else if op=14 then (3,3,true) else if op=4∨op=5∨op=6 then (2,-1,true) else (0,0,false)
theorem ops_all (op:Int):(op=0∨op=1∨op=2∨op=3∨op=4∨op=5∨op=6∨op=7∨op=8∨op=9∨op=10∨op=11∨op=12∨op=13∨op=14∨op=15)∨(op<0∨15<op):=by omega
theorem ne_lit {op:Int} (h:op<0∨15<op):∀ k:Nat,k≤15→(op==(k:Int))=false:=by
 intro k hk;simp;omega
theorem c138 (op:Int) (H:Heap):ACall PP 112 [.int .i64 op] H (Just H (.tuple [.int .i64 (kidsS op).1,.int .i64 (kidsS op).2.1,.bool (kidsS op).2.2])):=by
 have hp:∀ a b c,Plain (.tuple [.int .i64 a,.int .i64 b,.bool c]):=fun a b c=>⟨3,rfl⟩
 refine ACall.gives (is112.c1 z0W mixed rfl ?_)
 rcases ops_all op with h | h
 ·rcases h with rfl | rfl | rfl | rfl | rfl | rfl | rfl | rfl | rfl | rfl | rfl | rfl | rfl | rfl | rfl | rfl <;>
  ·refine z0G ?_
   exact z1G rfl (z2T (hp _ _ _))
 ·have h0:(op==0)=false:=ne_lit h 0 (by omega)
  have h1:(op==1)=false:=ne_lit h 1 (by omega)
  have h2:(op==2)=false:=ne_lit h 2 (by omega)
  have h3:(op==3)=false:=ne_lit h 3 (by omega)
  have h4:(op==4)=false:=ne_lit h 4 (by omega)
  have h5:(op==5)=false:=ne_lit h 5 (by omega)
  have h6:(op==6)=false:=ne_lit h 6 (by omega)
  have h7:(op==7)=false:=ne_lit h 7 (by omega)
  have h8:(op==8)=false:=ne_lit h 8 (by omega)
  have h9:(op==9)=false:=ne_lit h 9 (by omega)
  have h10:(op==10)=false:=ne_lit h 10 (by omega)
  have h11:(op==11)=false:=ne_lit h 11 (by omega)
  have h12:(op==12)=false:=ne_lit h 12 (by omega)
  have h13:(op==13)=false:=ne_lit h 13 (by omega)
  have h14:(op==14)=false:=ne_lit h 14 (by omega)
  have h15:(op==15)=false:=ne_lit h 15 (by omega)
  have e:kidsS op=(0,0,false):=by
   unfold kidsS
   rw [if_neg (by omega),if_neg (by omega),if_neg (by omega),if_neg (by omega),if_neg (by omega)]
  rw [e]
  refine z0G ?_
  exact z1G rfl (z2T (hp _ _ _))
theorem c141 {v:AV} {w:List Ex} (hv:Sl 3 v (w.map enc)) (hw:w.length≤1000000000000) {g:FuncId} {fs cs:List AV} {p:Ex→Bool} (hg:hasBody PP g=true)
  (hp:∀ s∈w,∀ H,ACall PP g (fs++[enc s]++cs) H (Just H (.bool (p s)))) (H:Heap) :
  ACall PP 115 [v,.clo (.func g) fs cs] H (Just H (.int .i64 (idxI (w.findIdx? p)))):=by
 have hl:(w.map enc).length=w.length:=List.length_map _
 refine ACall.gives (is115.c2 z0W mixed rfl ?_)
 refine z0G ?_
 refine z1B w.length (fun i al H'=>al=[(0,v),(1,.clo (.func g) fs cs),(7,.int .i64 (w.map enc).length),(8,.int .i64 i)]∧H'=H++[]∧∀ k c,k<i→w[k]? =some c→p c=false) ⟨rfl,rfl,by omega⟩ ?_
 rintro i _ _ hi ⟨rfl,rfl,hb⟩
 refine z0G ?_
 refine z0T _ rfl ?_ ?_<;>intro hc
 ·simp only [decide_eq_true_eq] at hc
  obtain ⟨c,hc⟩:=z1E (l:=w) (i:=i) (by omega)
  have hu:=getmap (f:=enc) hc
  have hpc':=hp c (List.mem_of_getElem? hc)
  have hpp:∀ k d,k<i+1→w[k]? =some d→p c=false→p d=false:=by
   intro k d hk hd hpc
   rcases Nat.lt_succ_iff_lt_or_eq.1 hk with h | h
   ·exact hb k d h hd
   ·subst h;rw [hc] at hd;injection hd with hd;rw [←hd];exact hpc
  have hfi:p c=true→w.findIdx? p=some i:=by
   intro hpc
   rw [List.findIdx?_eq_some_iff_getElem]
   refine ⟨by omega,?_,?_⟩
   ·rw [List.getElem?_eq_getElem (by omega)] at hc;injection hc with hc;rw [hc];exact hpc
   ·intro j hj;rw [hb j _ hj (List.getElem?_eq_getElem (by omega))];simp
  generalize p c=q at hpc' hpp hfi
  obtain ⟨op',s',nl',l'⟩:=c
  rw [z0U] at hu
  simp only [z0U] at hpc'
  refine z0G ?_
  refine st_callv rfl hg (hpc' _) ?_
  refine z0G ?_
  refine z0T _ rfl ?_ ?_<;>intro hpc
  ·refine z0G ?_
   rw [hfi hpc]
   exact fr
  ·refine z0G ?_
   exact ⟨by omega,rfl,rfl,fun k d hk hd=>hpp k d hk hd hpc⟩
 ·simp only [decide_eq_false_iff_not] at hc
  refine z0G ?_
  have:w.findIdx? p=none:=by
   rw [List.findIdx?_eq_none_iff]
   intro x hx
   obtain ⟨k,hk,rfl⟩:=List.getElem_of_mem hx
   exact hb k _ (by omega) (List.getElem?_eq_getElem hk)
  rw [this]
  exact fr
theorem c82 {v:AV} {w:List Ex} (hv:Sl 3 v (w.map enc)) (hw:w.length≤1000000000000) {g:FuncId} {fs cs:List AV} {p:Ex→Bool} (hg:hasBody PP g=true)
  (hp:∀ s∈w,∀ H,ACall PP g (fs++[enc s]++cs) H (Just H (.bool (p s)))) (H:Heap) :
  ACall PP 77 [v,.clo (.func g) fs cs] H (Just H (.bool (w.any p))):=by
 refine ACall.gives (is77.c2 z0W mixed rfl ?_)
 refine z0G ?_
 refine z0F rfl (c141 hv hw hg hp _) ?_
 refine z0G ?_
 rw [ge0_find]
 exact fr
def mixesS (op:Int):Bool:=(op==15)||(op==13)
mutual
def Ex.odd:Ex→Bool
 | .mk op _ _ l=>mixesS op||odds l
def odds:List Ex→Bool
 | []=>false
 | x::xs=>x.odd||odds xs
end
theorem odds_any:∀ l:List Ex,odds l=l.any Ex.odd
 | []=>rfl
 | x::xs=>by simp only [odds,List.any_cons,odds_any xs]
theorem c41 (e:Ex) (he:okE e) (H:Heap):ACall PP 30 [enc e] H (Just H (.bool e.odd)):=by
 match e,he with
 | .mk op s nl l,he =>
  have hs:=sl_lst nl l
  have hp:∀ x∈l,∀ H,ACall PP 30 ([]++[enc x]++[]) H (Just H (.bool (x.odd))):=fun x hx H=>c41 x (okE_kid he hx) H
  have k:=fun H=>c82 hs (okE_l he) (fs:=[]) (cs:=[]) is30.hasBody hp H
  rw [z0U]
  refine ACall.gives (is30.c1 z0W mixed rfl ?_)
  refine z0G ?_
  cases h1:(op==15)
  ·refine z0G ?_
   cases h2:(op==13)
   ·refine z0G ?_
    refine z0F rfl (k _) ?_
    refine z0G ?_
    rw [show (Ex.mk op s nl l).odd=l.any Ex.odd by simp only [Ex.odd,mixesS,h1,h2,odds_any,Bool.false_or]]
    exact fr
   ·refine z0G ?_
    rw [show (Ex.mk op s nl l).odd=true by simp only [Ex.odd,mixesS,h1,h2];rfl]
    exact fr
  ·refine z0G ?_
   rw [show (Ex.mk op s nl l).odd=true by simp only [Ex.odd,mixesS,h1];rfl]
   exact fr
termination_by SizeOf.sizeOf e
decreasing_by exact mem_size (by assumption)
def badNode (k:Int × Int × Bool) (op:Int) (s:List UInt8) (n:Nat):Bool :=
 !k.2.2||decide ((n:Int)<k.1)||(decide (k.2.1≥0)&&decide ((n:Int)>k.2.1))||((op != 0) && !(s==[]))
def badSym (op:Int) (s:List UInt8):Bool:=(op==0)&&(vword [s] != 0)
mutual
def Ex.right:Ex→Bool
 | .mk op s _ l=>!badNode (kidsS op) op s l.length && !badSym op s&&rights l
def rights:List Ex→Bool
 | []=>true
 | x::xs=>x.right&&rights xs
end
theorem rights_any:∀ l:List Ex,(!(l.any fun x=>!x.right))=rights l
 | []=>rfl
 | x::xs=>by simp only [rights,List.any_cons,←rights_any xs,Bool.not_or,Bool.not_not]
theorem c139 {e:Ex} {b:Bool} (h:∀ H,ACall PP 73 [enc e] H (Just H (.bool b))) (H:Heap):ACall PP 113 [enc e] H (Just H (.bool (!b))):=by
 obtain ⟨op,s,nl,l⟩:=e
 rw [z0U] at h ⊢
 refine ACall.gives (is113.c1 z0W mixed rfl ?_)
 refine z0G ?_
 refine z0F rfl (h _) ?_
 refine z0G ?_
 exact fr
theorem okW1 {s:List UInt8} (h:okS s):okW [s]:=⟨by simp,fun x hx=>by rw [List.mem_singleton] at hx;subst hx;exact h⟩
theorem c78 (e:Ex) (he:okE e) (H:Heap):ACall PP 73 [enc e] H (Just H (.bool e.right)):=by
 match e,he with
 | .mk op s nl l,he =>
  have hs:=sl_lst nl l
  have hl:(l.map enc).length=l.length:=List.length_map _
  have hp:∀ x∈l,∀ H,ACall PP 113 ([]++[enc x]++[]) H (Just H (.bool (!x.right))):=fun x hx H=>c139 (fun H=>c78 x (okE_kid he hx) H) H
  have k82:=fun H=>c82 hs (okE_l he) (fs:=[]) (cs:=[]) is113.hasBody hp H
  have k38:=fun H=>c38 (w:=[s]) (.list _) (okW1 (okE_s he)) H
  have hr:(Ex.mk op s nl l).right=(!badNode (kidsS op) op s l.length && !badSym op s && !(l.any fun x=>!x.right)):=by rw [rights_any];rfl
  have hbn:∀ k,badNode k op s l.length=badNode k op s (l.map enc).length:=fun k=>by rw [hl]
  rw [z0U,hr,hbn]
  refine ACall.gives (is73.c1 z0W mixed rfl ?_)
  refine z0G ?_
  refine z0F rfl (c138 op _) ?_
  generalize kidsS op=k
  obtain ⟨f,t,b⟩:=k
  refine z0G ?_
  refine z3Y [(1,.ptr (H.length+0) 0),(42,.bool (badNode (f,t,b) op s (l.map enc).length))] (H++[.cells [.int .i64 op,.str s,lst nl l]]) ?_ ?_
  ·cases b
   ·refine z0G ?_
    exact z0Z rfl rfl
   ·refine z0G ?_
    cases h2:decide (((l.map enc).length:Int)<f)
    ·have e0:∀ b,(badNode (f,t,true) op s (l.map enc).length=b↔((decide (t≥0)&&decide (((l.map enc).length:Int)>t))||((op != 0) && !(s==[])))=b):=by
      intro b;simp only [badNode,h2];simp
     refine z0G ?_
     cases h3:decide (t≥0)
     ·refine z0G ?_
      cases h5:(op != 0)
      ·refine z0G ?_
       exact z0Z (by rw [(e0 false).2 (by simp only [h3,h5];rfl)];rfl) rfl
      ·refine z0G ?_
       exact z0Z (by rw [(e0 (!(s==[]))).2 (by simp only [h3,h5];simp)];rfl) rfl
     ·refine z0G ?_
      cases h4:decide (((l.map enc).length:Int)>t)
      ·refine z0G ?_
       cases h5:(op != 0)
       ·refine z0G ?_
        exact z0Z (by rw [(e0 false).2 (by simp only [h3,h4,h5];rfl)];rfl) rfl
       ·refine z0G ?_
        exact z0Z (by rw [(e0 (!(s==[]))).2 (by simp only [h3,h4,h5];simp)];rfl) rfl
      ·refine z0G ?_
       exact z0Z (by rw [(e0 true).2 (by simp only [h3,h4];simp)];rfl) rfl
    ·refine z0G ?_
     exact z0Z (by rw [show badNode (f,t,true) op s (l.map enc).length=true by simp only [badNode,h2];simp];rfl) rfl
  refine nx_n ?_
  refine z0T _ rfl ?_ ?_<;>intro hb
  ·rw [hb]
   refine z0G ?_
   exact fr
  ·rw [hb]
   refine z0G ?_
   cases h1:(op==0)
   ·refine z0G ?_
    refine z0F rfl (k82 _) ?_
    refine z0G ?_
    rw [show badSym op s=false by simp only [badSym,h1];rfl]
    exact fr
   ·refine z0G ?_
    refine z3J rfl rfl rfl ?_
    refine st_yes rfl ?_
    refine st_callS (n:=1) (G':=[.cells [.int .i64 op,.str s,lst nl l],.dead]) (cs:=[.str s]) (args:=[.sl (H.length+1) 0 1 1]) (args':=[.list 1 [.str s]]) ?_ ?_ ?_ (seal1 (sealStrs (H.length+1) [s])) ?_ (k38 _) ?_
    ·rfl
    ·rfl
    ·rfl
    ·rfl
    refine z0G ?_
    refine z0T _ rfl ?_ ?_<;>intro hv
    ·rw [show badSym op s=true by simp only [badSym,h1,hv];rfl]
     refine z0G ?_
     exact fr
    ·rw [show badSym op s=false by simp only [badSym,h1,hv];rfl]
     refine z0G ?_
     refine z0F rfl (k82 _) ?_
     refine z0G ?_
     exact fr
termination_by SizeOf.sizeOf e
decreasing_by exact mem_size (by assumption)
def vexpr (e:Ex):Int:=if decide ((e.size:Int)>40)||decide ((e.deep:Int)>12) then 3 else if !e.right then 1 else 0
theorem c39 (e:Ex) (he:okE e) (H:Heap):ACall PP 28 [enc e] H (Just H (.int .i64 (vexpr e))):=by
 have k76:=fun H=>c76 e (Nat.le_trans (size_w e) he) H
 have k77:=fun H=>c77 e he H
 have k78:=fun H=>c78 e he H
 have hv:vexpr e=if decide ((e.size:Int)>40)||decide ((e.deep:Int)>12) then 3 else if !e.right then 1 else 0:=rfl
 rw [hv]
 generalize e.size=n1 at *
 generalize e.deep=n2 at *
 generalize e.right=b at *
 obtain ⟨op,s,nl,l⟩:=e
 rw [z0U] at *
 refine ACall.gives (is28.c1 z0W mixed rfl ?_)
 refine z0G ?_
 refine z0F rfl (k76 _) ?_
 refine z0G ?_
 cases h1:decide ((n1:Int)>40)
 ·refine z0G ?_
  refine z0F rfl (k77 _) ?_
  refine z0G ?_
  cases h2:decide ((n2:Int)>12)
  ·refine z0G ?_
   refine z0F rfl (k78 _) ?_
   refine z0G ?_
   cases b
   ·refine z0G ?_
    exact fr
   ·refine z0G ?_
    exact fr
  ·refine z0G ?_
   exact fr
 ·refine z0G ?_
  exact fr
theorem beq_take_succ {a b:List (List UInt8)} {i:Nat} {x y:List UInt8} (hl:a.length=b.length) (hx:a[i]? =some x) (hy:b[i]? =some y) :
  (a.take (i+1)==b.take (i+1))=((a.take i==b.take i)&&(x==y)):=by
 rw [List.take_add_one,List.take_add_one,hx,hy]
 have h1:=(List.getElem?_eq_some_iff.1 hx).1
 have h2:=(List.getElem?_eq_some_iff.1 hy).1
 apply Bool.eq_iff_iff.2
 simp only [Option.toList,beq_iff_eq,Bool.and_eq_true]
 constructor
 ·intro h
  have:=List.append_inj h (by simp;omega)
  exact ⟨this.1,by simpa using this.2⟩
 ·rintro ⟨e1,e2⟩;rw [e1,e2]
theorem c80 {v u:AV} {a b:List (List UInt8)} (hv:Sl 1 v (a.map .str)) (hu:Sl 1 u (b.map .str)) (ha:a.length≤1000000000000) (H:Heap):ACall PP 75 [v,u] H (Just H (.bool (a==b))):=by
 have hl:(a.map AV.str).length=a.length:=List.length_map _
 have hl':(b.map AV.str).length=b.length:=List.length_map _
 refine ACall.gives (is75.c2 z0W mixed rfl ?_)
 refine z0G ?_
 refine z0T _ rfl ?_ ?_<;>intro hc
 ·have:(a==b)=false:=by
   simp only [bne_iff_ne,ne_eq] at hc
   rw [beq_eq_false_iff_ne];rintro rfl;exact hc rfl
  rw [this]
  refine z0G ?_
  exact fr
 ·have hlen:a.length=b.length:=by
   have:((a.map AV.str).length:Int)=(b.map AV.str).length:=by simpa using hc
   omega
  refine z0G ?_
  refine z1B a.length (fun i al H'=>al=[(0,v),(1,u),(12,.int .i64 (a.map AV.str).length),(13,.int .i64 i)]∧H'=H++[]∧(a.take i==b.take i)=true) ⟨rfl,rfl,by simp⟩ ?_
  rintro i _ _ hi ⟨rfl,rfl,hb⟩
  refine z0G ?_
  refine z0T _ rfl ?_ ?_<;>intro hc
  ·simp only [decide_eq_true_eq] at hc
   obtain ⟨x,hx⟩:=z1E (l:=a) (i:=i) (by omega)
   obtain ⟨y,hy⟩:=z1E (l:=b) (i:=i) (by omega)
   have hxu:=getmap (f:=AV.str) hx
   have hyu:=getmap (f:=AV.str) hy
   have hs:=beq_take_succ hlen hx hy
   refine z0G ?_
   refine z0T _ rfl ?_ ?_<;>intro hq
   ·have:(a==b)=false:=by
     rw [beq_eq_false_iff_ne];rintro rfl
     rw [hx] at hy;injection hy with hy;subst hy
     simp at hq
    rw [this]
    refine z0G ?_
    exact fr
   ·refine z0G ?_
    refine ⟨by omega,rfl,rfl,?_⟩
    rw [hs,hb];simpa using hq
  ·simp only [decide_eq_false_iff_not] at hc
   have:i=a.length:=by omega
   subst this
   rw [List.take_length,hlen,List.take_length] at hb
   rw [hb]
   refine z0G ?_
   exact fr
def orderS:List (List UInt8)→List (List UInt8)→Int
 | [],[]=>0
 | [],_::_=>-1
 | _::_,[]=>1
 | a::as_,b::bs=>if Op.bytesLess a b then -1 else if !(Op.bytesLess a b||a==b) then 1 else orderS as_ bs
theorem less_irrefl (a:List UInt8):Op.bytesLess a a=false:=by
 induction a with
 | nil=>rfl
 | cons x xs ih=>simp [Op.bytesLess,ih]
theorem order_zero:∀ a b:List (List UInt8),(orderS a b==0)=(a==b)
 | [],[]=>rfl
 | [],_::_=>rfl
 | _::_,[]=>rfl
 | a::as_,b::bs=>by
  simp only [orderS]
  cases h1:Op.bytesLess a b with
  | true =>
   have:(a::as_==b::bs)=false:=by
    rw [beq_eq_false_iff_ne];intro e;injection e with e1 e2;subst e1;rw [less_irrefl] at h1;cases h1
   rw [this];rfl
  | false =>
   cases h2:(a==b) with
   | false =>
    have:(a::as_==b::bs)=false:=by
     rw [beq_eq_false_iff_ne];intro e;injection e with e1 e2;subst e1;simp at h2
    rw [this];rfl
   | true =>
    have:=eq_of_beq h2
    subst this
    simp only [Bool.or_true,Bool.not_true,Bool.false_eq_true,if_false]
    rw [order_zero as_ bs]
    apply Bool.eq_iff_iff.2;simp
theorem z3K {α:Type} {l:List α} {i:Nat} {x:α} (h:l[i]? =some x):l.drop i=x::l.drop (i+1):=by
 have hlt:=(List.getElem?_eq_some_iff.1 h).1
 rw [List.drop_eq_getElem_cons hlt]
 rw [List.getElem?_eq_getElem hlt] at h
 injection h with h;rw [h]
theorem c45 {v u:AV} {a b:List (List UInt8)} (hv:Sl 1 v (a.map .str)) (hu:Sl 1 u (b.map .str)) (ha:a.length≤1000000000000) (H:Heap):ACall PP 41 [v,u] H (Just H (.int .i64 (orderS a b))):=by
 have hl:(a.map AV.str).length=a.length:=List.length_map _
 have hl':(b.map AV.str).length=b.length:=List.length_map _
 have e1:∀ i:Nat,decide ((i:Int)<(a.map AV.str).length)=decide (i<a.length):=fun i=>by rw [hl];simp
 have e2:∀ i:Nat,decide ((i:Int)<(b.map AV.str).length)=decide (i<b.length):=fun i=>by rw [hl'];simp
 refine ACall.gives (is41.c2 z0W mixed rfl ?_)
 refine z0G ?_
 refine z1B a.length (fun i al H'=>al=[(0,v),(1,u),(5,.int .i64 i)]∧H'=H++[]∧i≤b.length∧orderS a b=orderS (a.drop i) (b.drop i)) ⟨rfl,rfl,by omega,rfl⟩ ?_
 rintro i _ _ hi ⟨rfl,rfl,hi',hb⟩
 have fin:(¬ i<a.length∨¬ i<b.length)→orderS a b=if decide (((a.map AV.str).length:Int)<(b.map AV.str).length) then -1 else if decide (((a.map AV.str).length:Int)>(b.map AV.str).length) then 1 else 0:=by
  intro h
  rw [hb,hl,hl']
  by_cases h1:i<a.length
  ·have h2:b.length≤i:=by omega
   rw [List.drop_eq_nil_of_le h2,List.drop_eq_getElem_cons h1,if_neg (by simp;omega),if_pos (by simp;omega)];rfl
  ·have h1:a.length≤i:=by omega
   rw [List.drop_eq_nil_of_le h1]
   by_cases h2:i<b.length
   ·rw [List.drop_eq_getElem_cons h2,if_pos (by simp;omega)];rfl
   ·rw [List.drop_eq_nil_of_le (by omega),if_neg (by simp;omega),if_neg (by simp;omega)];rfl
 refine z0G ?_
 rw [e1]
 cases h1:decide (i<a.length)
 ·simp only [decide_eq_false_iff_not] at h1
  rw [fin (.inl h1)]
  refine z0G ?_
  cases h5:decide (((a.map AV.str).length:Int)<(b.map AV.str).length)
  ·refine z0G ?_
   cases h6:decide (((a.map AV.str).length:Int)>(b.map AV.str).length)
   ·refine z0G ?_
    exact fr
   ·refine z0G ?_
    exact fr
  ·refine z0G ?_
   exact fr
 ·simp only [decide_eq_true_eq] at h1
  refine z0G ?_
  rw [e2]
  cases h2:decide (i<b.length)
  ·simp only [decide_eq_false_iff_not] at h2
   rw [fin (.inr h2)]
   refine z0G ?_
   cases h5:decide (((a.map AV.str).length:Int)<(b.map AV.str).length)
   ·refine z0G ?_
    cases h6:decide (((a.map AV.str).length:Int)>(b.map AV.str).length)
    ·refine z0G ?_
     exact fr
    ·refine z0G ?_
     exact fr
   ·refine z0G ?_
    exact fr
  ·simp only [decide_eq_true_eq] at h2
   obtain ⟨x,hx⟩:=z1E (l:=a) (i:=i) (by omega)
   obtain ⟨y,hy⟩:=z1E (l:=b) (i:=i) (by omega)
   have hxu:=getmap (f:=AV.str) hx
   have hyu:=getmap (f:=AV.str) hy
   rw [z3K hx,z3K hy] at hb
   simp only [orderS] at hb
   refine z0G ?_
   cases h3:Op.bytesLess x y
   ·rw [h3] at hb
    refine z0G ?_
    cases h4:(!(Op.bytesLess x y||x==y))
    ·rw [h3] at h4
     rw [h4] at hb
     refine z0G ?_
     exact ⟨by omega,rfl,rfl,by omega,hb⟩
    ·rw [h3] at h4
     rw [h4] at hb
     rw [hb]
     refine z0G ?_
     exact fr
   ·rw [h3] at hb
    rw [hb]
    refine z0G ?_
    exact fr
theorem c17 {v u:AV} {a b:List (List UInt8)} (hv:Sl 1 v (a.map .str)) (hu:Sl 1 u (b.map .str)) (ha:a.length≤1000000000000) (H:Heap):ACall PP 19 [v,u] H (Just H (.bool (a==b))):=by
 refine ACall.gives (is19.c2 z0W mixed rfl ?_)
 refine z0G ?_
 refine z0F rfl (c45 hv hu ha _) ?_
 refine z0G ?_
 rw [order_zero]
 exact fr
theorem st_sliceTo {P:Program} {H:Heap} {al:AL} {K:KL} {Qp:AL→AV→Heap→Prop} {os:List IOper} {d:Nat} {x y:Arg} {sz i:Nat} {w:AV} {xs:List AV} (hx:evL al x=w) (hs:Sl sz w xs) (hy:evL al y=.int .i64 i) (hi:i≤xs.length)
  (h:∀ v',Sl sz v' (xs.take i)→VV P os ((d,v')::al) H K Qp):VV P (⟨some d,.i (.d (.sliceSl sz false true)),[x,y],none,none⟩::os) al H K Qp:=by
 cases hs with
 | nil =>
  have:i=0:=by simpa using hi
  subst this
  refine z2Z (v:=.nilslice) ?_ (h _ (by simpa using Sl.nil))
  simp [evsL,hx,hy,dsem,dslice,bounds]
 | list =>
  refine z2Z (v:=.list sz (xs.take i)) ?_ (h _ (.list _))
  simp only [evsL,hx,hy,dsem,dslice,if_true,bounds]
  rw [if_pos ⟨by omega,by omega⟩]
  simp
theorem st_mkf {P:Program} {H:Heap} {al:AL} {K:KL} {Qp:AL→AV→Heap→Prop} {os:List IOper} {d:Nat} {fn:Fn} {as_:List Arg} {vs:List AV} (ha:evsL al as_=vs)
  (h:VV P os ((d,.clo fn [] vs)::al) H K Qp):VV P (⟨some d,.i (.d (.mkFunc fn 0)),as_,none,none⟩::os) al H K Qp:=z2Z (v:=.clo fn [] vs) (by rw [ha];rfl) h
structure Wd where
 nl:Bool
 l:List (List UInt8)
def encW (w:Wd):AV:=if w.nl&&w.l.isEmpty then .nilslice else .list 1 (w.l.map .str)
theorem sl_W (w:Wd):Sl 1 (encW w) (w.l.map .str):=by
 obtain ⟨nl,l⟩:=w
 unfold encW
 cases l with
 | nil=>cases nl<;>first | exact .nil | exact .list []
 | cons x xs=>simp only [List.isEmpty_cons,Bool.and_false,Bool.false_eq_true,if_false];exact .list _
theorem scalar_W (w:Wd):AV.scalar (encW w)=true:=by unfold encW;split<;>rfl
structure Pr where
 a:Wd
 b:Wd
def encP (p:Pr):AV:=.agg [encW p.a,encW p.b]
abbrev okP (p:Pr):Prop:=okW p.a.l∧okW p.b.l
theorem all_W {a b:Wd}:([encW a,encW b]:List AV).all AV.scalar=true:=by
 simp only [List.all_cons,scalar_W,List.all_nil];rfl
theorem c140 {v:AV} {w:List Pr} (hv:Sl 2 v (w.map encP)) (hw:w.length≤1000000000000) {g:FuncId} {fs cs:List AV} {p:Pr→Bool} (hg:hasBody PP g=true) {H:Heap}
  (hp:∀ s∈w,ACall PP g (fs++[encP s]++cs) H (Just H (.bool (p s)))) :
  ACall PP 114 [v,.clo (.func g) fs cs] H (Just H (.int .i64 (idxI (w.findIdx? p)))):=by
 have hl:(w.map encP).length=w.length:=List.length_map _
 refine ACall.gives (is114.c2 z0W mixed rfl ?_)
 refine z0G ?_
 refine z1B w.length (fun i al H'=>al=[(0,v),(1,.clo (.func g) fs cs),(7,.int .i64 (w.map encP).length),(8,.int .i64 i)]∧H'=H++[]∧∀ k c,k<i→w[k]? =some c→p c=false) ⟨rfl,rfl,by omega⟩ ?_
 rintro i _ _ hi ⟨rfl,rfl,hb⟩
 refine z0G ?_
 refine z0T _ rfl ?_ ?_<;>intro hc
 ·simp only [decide_eq_true_eq] at hc
  obtain ⟨c,hc⟩:=z1E (l:=w) (i:=i) (by omega)
  have hu:(w.map encP)[i]? =some (.agg [encW c.a,encW c.b]):=getmap (f:=encP) hc
  have hpc':=hp c (List.mem_of_getElem? hc)
  rw [←List.append_nil H] at hpc'
  refine z0G ?_
  refine st_callv rfl hg hpc' ?_
  refine z0G ?_
  refine z0T _ rfl ?_ ?_<;>intro hpc
  ·have:w.findIdx? p=some i:=by
    rw [List.findIdx?_eq_some_iff_getElem]
    refine ⟨by omega,?_,?_⟩
    ·rw [List.getElem?_eq_getElem (by omega)] at hc;injection hc with hc;rw [hc];exact hpc
    ·intro j hj;rw [hb j _ hj (List.getElem?_eq_getElem (by omega))];simp
   rw [this]
   refine z0G ?_
   exact fr
  ·refine z0G ?_
   refine ⟨by omega,rfl,rfl,?_⟩
   intro k d hk hd
   rcases Nat.lt_succ_iff_lt_or_eq.1 hk with h | h
   ·exact hb k d h hd
   ·subst h;rw [hc] at hd;injection hd with hd;rw [←hd];exact hpc
 ·simp only [decide_eq_false_iff_not] at hc
  have:w.findIdx? p=none:=by
   rw [List.findIdx?_eq_none_iff]
   intro x hx
   obtain ⟨k,hk,rfl⟩:=List.getElem_of_mem hx
   exact hb k _ (by omega) (List.getElem?_eq_getElem hk)
  rw [this]
  refine z0G ?_
  exact fr
theorem c81 {v:AV} {w:List Pr} (hv:Sl 2 v (w.map encP)) (hw:w.length≤1000000000000) {g:FuncId} {fs cs:List AV} {p:Pr→Bool} (hg:hasBody PP g=true) {H:Heap}
  (hp:∀ s∈w,ACall PP g (fs++[encP s]++cs) H (Just H (.bool (p s)))) :
  ACall PP 76 [v,.clo (.func g) fs cs] H (Just H (.bool (w.any p))):=by
 refine ACall.gives (is76.c2 z0W mixed rfl ?_)
 rw [←List.append_nil H] at hp
 refine z0G ?_
 refine z0F rfl (c140 hv hw hg hp) ?_
 refine z0G ?_
 rw [ge0_find]
 exact fr
def sameP (p q:Pr):Bool:=(p.a.l==q.a.l)&&(p.b.l==q.b.l)
theorem c79 {p q:Pr} (hp:okP p) {id:Nat} {H:Heap} (hb:H[id]? =some (.cells [encW p.a,encW p.b])):ACall PP 74 [encP q,.ptr id 0] H (Just H (.bool (sameP p q))):=by
 have h1:=fun H=>c80 (sl_W p.a) (sl_W q.a) hp.1.1 H
 have h2:=fun H=>c80 (sl_W p.b) (sl_W q.b) hp.2.1 H
 refine ACall.gives (is74.c2 z0W mixed rfl ?_)
 unfold encP
 refine z0G ?_
 refine z0F rfl (h1 _) ?_
 refine z0G ?_
 cases h3:(p.a.l==q.a.l)
 ·rw [show sameP p q=false by simp only [sameP,h3];rfl]
  refine z0G ?_
  exact fr
 ·rw [show sameP p q=(p.b.l==q.b.l) by simp only [sameP,h3,Bool.true_and]]
  refine z0G ?_
  refine z0F rfl (h2 _) ?_
  refine z0G ?_
  exact fr
def twiceAt (l:List Pr) (i:Nat):Bool :=
 match l[i]? with
 | none=>false
 | some p=>(p.a.l==[])||(l.take i).any (sameP p)
def twice (l:List Pr):Bool:=(List.range l.length).any (twiceAt l)
theorem c40 {v:AV} {w:List Pr} (hv:Sl 2 v (w.map encP)) (hw:w.length≤1000000000000) (hok:∀ p∈w,okP p) (H:Heap):ACall PP 29 [v] H (Just H (.bool (twice w))):=by
 have hl:(w.map encP).length=w.length:=List.length_map _
 refine ACall.gives (is29.c1 z0W mixed rfl ?_)
 refine z0G ?_
 refine z1B w.length (fun i al H'=>al=[(0,v),(6,v),(7,.int .i64 (w.map encP).length),(8,.int .i64 i)]∧Ext H H'∧∀ k,k<i→twiceAt w k=false) ⟨rfl,⟨_,rfl⟩,by omega⟩ ?_
 rintro i _ H1 hi ⟨rfl,hx,hb⟩
 refine wi_nil ?_
 refine z0G ?_
 refine z0T _ rfl ?_ ?_<;>intro hc
 ·simp only [decide_eq_true_eq] at hc
  obtain ⟨c,hc⟩:=z1E (l:=w) (i:=i) (by omega)
  have hm:=List.mem_of_getElem? hc
  have hu:(w.map encP)[i]? =some (.agg [encW c.a,encW c.b]):=getmap (f:=encP) hc
  have ht:twiceAt w i=((c.a.l==[])||(w.take i).any (sameP c)):=by simp only [twiceAt,hc]
  have htw:twiceAt w i=true→twice w=true:=fun h=>List.any_eq_true.2 ⟨i,List.mem_range.2 (by omega),h⟩
  have e0:(((c.a.l.map AV.str).length:Int)==0)=(c.a.l==[]):=by
   cases c.a.l<;>simp
   omega
  have hsW:=sl_W c.a
  refine z0G ?_
  refine z1J (n:=0) (ws:=[encW c.a,encW c.b]) rfl rfl rfl rfl rfl all_W rfl ?_
  refine z0G ?_
  refine st_mkf (vs:=[.ptr (H1.length+0) 0]) rfl ?_
  refine z0G ?_
  rw [e0]
  cases h1:(c.a.l==[])
  ·refine z0G ?_
   refine st_sliceTo rfl hv rfl (by omega) ?_
   intro v' hv'
   refine z0G ?_
   have hv'':Sl 2 v' ((w.take i).map encP):=by rw [List.map_take];exact hv'
   have hcl:∀ q∈w.take i,ACall PP 74 ([]++[encP q]++[.ptr (H1.length+0) 0]) (H1++[.cells [encW c.a,encW c.b]]) (Just (H1++[.cells [encW c.a,encW c.b]]) (.bool (sameP c q))) :=
    fun q hq=>c79 (hok c hm) hp_new
   refine z0F rfl (c81 hv'' (by simp;omega) is74.hasBody hcl) ?_
   refine z0G ?_
   refine z0T _ rfl ?_ ?_<;>intro h2
   ·rw [htw (by rw [ht,h1,h2];rfl)]
    refine z0G ?_
    exact z1G rfl (z0M (hx.app _) (Plain.bool _))
   ·refine z0G ?_
    refine ⟨by omega,rfl,hx.app _,?_⟩
    intro k hk
    rcases Nat.lt_succ_iff_lt_or_eq.1 hk with h | h
    ·exact hb k h
    ·subst h;rw [ht,h1,h2];rfl
  ·rw [htw (by rw [ht,h1];rfl)]
   refine z0G ?_
   exact z1G rfl (z0M (hx.app _) (Plain.bool _))
 ·simp only [decide_eq_false_iff_not] at hc
  have:twice w=false:=by
   rw [twice,List.any_eq_false];intro k hk;rw [hb k (by have:=List.mem_range.1 hk;omega)];simp
  rw [this]
  refine z0G ?_
  exact z1G rfl (z0M (hx.app _) (Plain.bool _))
end Go.Ab
