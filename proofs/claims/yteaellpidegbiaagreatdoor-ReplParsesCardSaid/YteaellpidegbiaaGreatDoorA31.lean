/- Part 31 of the proof. -/
import Derived.Test.YteaellpidegbiaaGreatDoorA24
import Derived.Test.YteaellpidegbiaaGreatDoorA30
set_option linter.unusedVariables false
set_option linter.unusedSimpArgs false
namespace Go.Ab
open Go
set_option maxRecDepth 100000
def kids2 (op:Int):Int × Int :=
 if op=0∨op=1∨op=2∨op=3 then (0,0) else if op=8∨op=9∨op=10∨op=11∨op=12 then (1,1) else
 if op=7∨op=13∨op=15 then (2,2) else if op=14 then (3,3) else (2,40)
theorem c143 (op:Int) (H:Heap):ACall PP 143 [.int .i64 op] H (Just H (.tuple [.int .i64 (kids2 op).1,.int .i64 (kids2 op).2])):=by
 have hp:∀ a b,Plain (.tuple [.int .i64 a,.int .i64 b]):=fun a b=>⟨3,rfl⟩
 refine ACall.gives (is143.c1 z0V mixed rfl ?_)
 rcases ops_all op with h | h
 ·rcases h with rfl | rfl | rfl | rfl | rfl | rfl | rfl | rfl | rfl | rfl | rfl | rfl | rfl | rfl | rfl | rfl <;>
  ·refine z0J ?_
   exact z1G rfl (z2P (hp _ _))
 ·have h0:(op==0)=false:=ne_lit h 0 (by omega)
  have h1:(op==1)=false:=ne_lit h 1 (by omega)
  have h2:(op==2)=false:=ne_lit h 2 (by omega)
  have h3:(op==3)=false:=ne_lit h 3 (by omega)
  have h7:(op==7)=false:=ne_lit h 7 (by omega)
  have h8:(op==8)=false:=ne_lit h 8 (by omega)
  have h9:(op==9)=false:=ne_lit h 9 (by omega)
  have h10:(op==10)=false:=ne_lit h 10 (by omega)
  have h11:(op==11)=false:=ne_lit h 11 (by omega)
  have h12:(op==12)=false:=ne_lit h 12 (by omega)
  have h13:(op==13)=false:=ne_lit h 13 (by omega)
  have h14:(op==14)=false:=ne_lit h 14 (by omega)
  have h15:(op==15)=false:=ne_lit h 15 (by omega)
  have e:kids2 op=(2,40):=by
   unfold kids2
   rw [if_neg (by omega),if_neg (by omega),if_neg (by omega),if_neg (by omega)]
  rw [e]
  refine z0J ?_
  exact z1G rfl (z2P (hp _ _))
def badNode2 (k:Int × Int) (op:Int) (s:List UInt8) (n:Nat):Bool :=
 decide ((n:Int)<k.1)||decide ((n:Int)>k.2)||((op != 0) && !(s==[]))||((op==0)&&(vword [s] != 0))
def outOp (op:Int):Bool:=decide (op<0)||decide (op>15)
mutual
def Ex.right2:Ex→Bool
 | .mk op s _ l=>!outOp op && !badNode2 (kids2 op) op s l.length&&rights2 l
def rights2:List Ex→Bool
 | []=>true
 | x::xs=>x.right2&&rights2 xs
end
theorem rights2_any:∀ l:List Ex,(!(l.any fun x=>!x.right2))=rights2 l
 | []=>rfl
 | x::xs=>by simp only [rights2,List.any_cons,←rights2_any xs,Bool.not_or,Bool.not_not]
theorem c87 (e:Ex) (he:okE e) (H:Heap):ACall PP 87 [enc e] H (Just H (.bool e.right2)):=by
 match e,he with
 | .mk op s nl l,he =>
  have hs:=sl_lst nl l
  have hl:(l.map enc).length=l.length:=List.length_map _
  have hll:=okE_l he
  have k42:=fun H=>c42 (w:=[s]) (.list _) (okW1 (okE_s he)) H
  have hr:(Ex.mk op s nl l).right2=(!outOp op && !badNode2 (kids2 op) op s l.length && !(l.any fun x=>!x.right2)):=by rw [rights2_any];rfl
  have hbn:∀ k,badNode2 k op s l.length=badNode2 k op s (l.map enc).length:=fun k=>by rw [hl]
  rw [z0X,hr,hbn]
  refine ACall.gives (is87.c1 z0V mixed rfl ?_)
  refine z0J ?_
  refine z1Y [(1,.ptr (H.length+0) 0),(13,.bool (outOp op))] (H++[.cells [.int .i64 op,.str s,lst nl l]]) ?_ ?_
  ·cases h1:decide (op<0)
   ·refine z0J ?_
    exact z0S (by rw [show outOp op=decide (op>15) by simp only [outOp,h1,Bool.false_or]];rfl) rfl
   ·refine z0J ?_
    exact z0S (by rw [show outOp op=true by simp only [outOp,h1,Bool.true_or]];rfl) rfl
  refine nx_n ?_
  refine z0W _ rfl ?_ ?_<;>intro ho
  ·rw [ho]
   refine z0J ?_
   exact fr
  rw [ho]
  refine z0J ?_
  refine z0G rfl (c143 op _) ?_
  generalize kids2 op=k
  obtain ⟨f,t⟩:=k
  refine z0J ?_
  refine vv_cutE [(1,.ptr (H.length+0) 0),(53,.bool (badNode2 (f,t) op s (l.map enc).length))] (fun h=>Ext H h∧h[H.length+0]? =some (.cells [.int .i64 op,.str s,lst nl l])) ?_ ?_
  ·cases h1:decide (((l.map enc).length:Int)<f)
   ·refine z0J ?_
    cases h2:decide (((l.map enc).length:Int)>t)
    ·refine z0J ?_
     cases h0:(op==0)
     ·have h5:(op != 0)=true:=by simp only [bne,h0];rfl
      refine z0J ?_
      cases h6:(!(s==[]))
      ·refine z0J ?_
       exact z2E (by rw [show badNode2 (f,t) op s (l.map enc).length=false by simp only [badNode2,h1,h2,h0,h6];simp];rfl) ⟨⟨_,rfl⟩,hp_new⟩
      ·refine z0J ?_
       exact z2E (by rw [show badNode2 (f,t) op s (l.map enc).length=true by simp only [badNode2,h5,h6];simp];rfl) ⟨⟨_,rfl⟩,hp_new⟩
     ·have h5:(op != 0)=false:=by simp only [bne,h0];rfl
      refine z0J ?_
      refine st_slice rfl rfl rfl ?_
      refine st_yes (congrArg AV.bool h0) ?_
      refine st_callS (n:=1) (G':=[.cells [.int .i64 op,.str s,lst nl l],.dead]) (cs:=[.str s]) (args:=[.sl (H.length+1) 0 1 1]) (args':=[.list 1 [.str s]]) ?_ ?_ ?_ (seal1 (sealStrs (H.length+1) [s])) ?_ (k42 _) ?_
      ·rfl
      ·rfl
      ·rfl
      ·rfl
      refine z0J ?_
      exact z2E (by rw [show badNode2 (f,t) op s (l.map enc).length=(vword [s] != 0) by simp only [badNode2,h1,h2,h0,h5];simp];rfl) ⟨⟨_,rfl⟩,hp_new⟩
    ·refine z0J ?_
     exact z2E (by rw [show badNode2 (f,t) op s (l.map enc).length=true by simp only [badNode2,h1,h2];simp];rfl) ⟨⟨_,rfl⟩,hp_new⟩
   ·refine z0J ?_
    exact z2E (by rw [show badNode2 (f,t) op s (l.map enc).length=true by simp only [badNode2,h1];simp];rfl) ⟨⟨_,rfl⟩,hp_new⟩
  rintro H1 ⟨hx,hb⟩
  refine nx_n ?_
  refine z0W _ rfl ?_ ?_<;>intro hn
  ·rw [hn]
   refine z0J ?_
   exact z1G rfl (z0N hx (Plain.bool _))
  rw [hn]
  refine z0J ?_
  refine z1F l.length (fun i al H'=>al=[(1,.ptr (H.length+0) 0),(5,.int .i64 i)]∧Ext H H'∧H'[H.length+0]? =some (.cells [.int .i64 op,.str s,lst nl l])∧((l.take i).any fun x=>!x.right2)=false)
   ⟨rfl,hx,hb,by simp⟩ ?_
  clear hx hb H1
  rintro i _ H1 hi ⟨rfl,hx,hb,hod⟩
  refine z0J ?_
  refine z0W _ rfl ?_ ?_<;>intro hc
  ·simp only [decide_eq_true_eq] at hc
   obtain ⟨c,hc⟩:=z1D (l:=l) (i:=i) (by omega)
   have hu:=getmap (f:=enc) hc
   have hm:=List.mem_of_getElem? hc
   have ht:=z1P (p:=fun x:Ex=>!x.right2) hc
   have hany:=z2R (p:=fun x:Ex=>!x.right2) hc
   obtain ⟨op',s',nl',l'⟩:=c
   rw [z0X] at hu
   have ih:=c87 (.mk op' s' nl' l') (okE_kid he hm) H1
   rw [z0X] at ih
   refine z0J ?_
   refine z0G rfl ih ?_
   refine z0J ?_
   refine z0W _ rfl ?_ ?_<;>intro hq
   ·rw [hany hq]
    refine z0J ?_
    exact z1G rfl (z0N hx (Plain.bool _))
   ·refine z0J ?_
    refine ⟨by omega,rfl,hx,hb,?_⟩
    rw [ht,hod,hq];rfl
  ·simp only [decide_eq_false_iff_not] at hc
   have:i=l.length:=by omega
   subst this
   rw [List.take_length] at hod
   rw [hod]
   refine z0J ?_
   exact z1G rfl (z0N hx (Plain.bool _))
termination_by SizeOf.sizeOf e
decreasing_by subst_vars;exact mem_size (by assumption)
def vexpr2 (e:Ex):Int:=if decide ((e.size:Int)>40)||decide ((e.deep:Int)>12) then 3 else if !e.right2 then 1 else 0
theorem c43 (e:Ex) (he:okE e) (H:Heap):ACall PP 43 [enc e] H (Just H (.int .i64 (vexpr2 e))):=by
 have k85:=fun H=>c85 e (Nat.le_trans (size_w e) he) H
 have k86:=fun H=>c86 e he H
 have k87:=fun H=>c87 e he H
 have hv:vexpr2 e=if decide ((e.size:Int)>40)||decide ((e.deep:Int)>12) then 3 else if !e.right2 then 1 else 0:=rfl
 rw [hv]
 generalize e.size=n1 at *
 generalize e.deep=n2 at *
 generalize e.right2=b at *
 obtain ⟨op,s,nl,l⟩:=e
 rw [z0X] at *
 refine ACall.gives (is43.c1 z0V mixed rfl ?_)
 refine z0J ?_
 refine z0G rfl (k85 _) ?_
 refine z0J ?_
 cases h1:decide ((n1:Int)>40)
 ·refine z0J ?_
  refine z0G rfl (k86 _) ?_
  refine z0J ?_
  cases h2:decide ((n2:Int)>12)
  ·refine z0J ?_
   refine z0G rfl (k87 _) ?_
   refine z0J ?_
   cases b
   ·refine z0J ?_
    exact fr
   ·refine z0J ?_
    exact fr
  ·refine z0J ?_
   exact fr
 ·refine z0J ?_
  exact fr
theorem beq_take_succ {a b:List (List UInt8)} {i:Nat} {x y:List UInt8} (hl:a.length=b.length) (hx:a[i]? =some x) (hy:b[i]? =some y) :
  (a.take (i+1)==b.take (i+1))=((a.take i==b.take i)&&(x==y)):=by
 rw [List.take_add_one,List.take_add_one,hx,hy]
 have h1:=(List.getElem?_eq_some_iff.1 hx).1
 have h2:=(List.getElem?_eq_some_iff.1 hy).1
 apply Bool.eq_iff_iff.2
 simp only [Option.toList,beq_iff_eq,Bool.and_eq_true]
 constructor
 ·intro h
  have:=List.append_inj h (by simp;omega)
  exact ⟨this.1,by simpa using this.2⟩
 ·rintro ⟨e1,e2⟩;rw [e1,e2]
theorem c80 {v u:AV} {a b:List (List UInt8)} (hv:Sl 1 v (a.map .str)) (hu:Sl 1 u (b.map .str)) (ha:a.length≤1000000000000) (H:Heap):ACall PP 80 [v,u] H (Just H (.bool (a==b))):=by
 have hl:(a.map AV.str).length=a.length:=List.length_map _
 have hl':(b.map AV.str).length=b.length:=List.length_map _
 refine ACall.gives (is80.c2 z0V mixed rfl ?_)
 refine z0J ?_
 refine z0W _ rfl ?_ ?_<;>intro hc
 ·have:(a==b)=false:=by
   simp only [bne_iff_ne,ne_eq] at hc
   rw [beq_eq_false_iff_ne];rintro rfl;exact hc rfl
  rw [this]
  refine z0J ?_
  exact fr
 ·have hlen:a.length=b.length:=by
   have:((a.map AV.str).length:Int)=(b.map AV.str).length:=by simpa using hc
   omega
  refine z0J ?_
  refine z1F a.length (fun i al H'=>al=[(0,v),(1,u),(12,.int .i64 (a.map AV.str).length),(13,.int .i64 i)]∧H'=H++[]∧(a.take i==b.take i)=true) ⟨rfl,rfl,by simp⟩ ?_
  rintro i _ _ hi ⟨rfl,rfl,hb⟩
  refine z0J ?_
  refine z0W _ rfl ?_ ?_<;>intro hc
  ·simp only [decide_eq_true_eq] at hc
   obtain ⟨x,hx⟩:=z1D (l:=a) (i:=i) (by omega)
   obtain ⟨y,hy⟩:=z1D (l:=b) (i:=i) (by omega)
   have hxu:=getmap (f:=AV.str) hx
   have hyu:=getmap (f:=AV.str) hy
   have hs:=beq_take_succ hlen hx hy
   refine z0J ?_
   refine z0W _ rfl ?_ ?_<;>intro hq
   ·have:(a==b)=false:=by
     rw [beq_eq_false_iff_ne];rintro rfl
     rw [hx] at hy;injection hy with hy;subst hy
     simp at hq
    rw [this]
    refine z0J ?_
    exact fr
   ·refine z0J ?_
    refine ⟨by omega,rfl,rfl,?_⟩
    rw [hs,hb];simpa using hq
  ·simp only [decide_eq_false_iff_not] at hc
   have:i=a.length:=by omega
   subst this
   rw [List.take_length,hlen,List.take_length] at hb
   rw [hb]
   refine z0J ?_
   exact fr
def orderS:List (List UInt8)→List (List UInt8)→Int
 | [],[]=>0
 | [],_::_=>-1
 | _::_,[]=>1
 | a::as_,b::bs=>if Op.bytesLess a b then -1 else if !(Op.bytesLess a b||a==b) then 1 else orderS as_ bs
theorem less_irrefl (a:List UInt8):Op.bytesLess a a=false:=by
 induction a with
 | nil=>rfl
 | cons x xs ih=>simp [Op.bytesLess,ih]
theorem order_zero:∀ a b:List (List UInt8),(orderS a b==0)=(a==b)
 | [],[]=>rfl
 | [],_::_=>rfl
 | _::_,[]=>rfl
 | a::as_,b::bs=>by
  simp only [orderS]
  cases h1:Op.bytesLess a b with
  | true =>
   have:(a::as_==b::bs)=false:=by
    rw [beq_eq_false_iff_ne];intro e;injection e with e1 e2;subst e1;rw [less_irrefl] at h1;cases h1
   rw [this];rfl
  | false =>
   cases h2:(a==b) with
   | false =>
    have:(a::as_==b::bs)=false:=by
     rw [beq_eq_false_iff_ne];intro e;injection e with e1 e2;subst e1;simp at h2
    rw [this];rfl
   | true =>
    have:=eq_of_beq h2
    subst this
    simp only [Bool.or_true,Bool.not_true,Bool.false_eq_true,if_false]
    rw [order_zero as_ bs]
    apply Bool.eq_iff_iff.2;simp
theorem z4H {α:Type} {l:List α} {i:Nat} {x:α} (h:l[i]? =some x):l.drop i=x::l.drop (i+1):=by
 have hlt:=(List.getElem?_eq_some_iff.1 h).1
 rw [List.drop_eq_getElem_cons hlt]
 rw [List.getElem?_eq_getElem hlt] at h
 injection h with h;rw [h]
theorem c45 {v u:AV} {a b:List (List UInt8)} (hv:Sl 1 v (a.map .str)) (hu:Sl 1 u (b.map .str)) (ha:a.length≤1000000000000) (H:Heap):ACall PP 45 [v,u] H (Just H (.int .i64 (orderS a b))):=by
 have hl:(a.map AV.str).length=a.length:=List.length_map _
 have hl':(b.map AV.str).length=b.length:=List.length_map _
 have e1:∀ i:Nat,decide ((i:Int)<(a.map AV.str).length)=decide (i<a.length):=fun i=>by rw [hl];simp
 have e2:∀ i:Nat,decide ((i:Int)<(b.map AV.str).length)=decide (i<b.length):=fun i=>by rw [hl'];simp
 refine ACall.gives (is45.c2 z0V mixed rfl ?_)
 refine z0J ?_
 refine z1F a.length (fun i al H'=>al=[(0,v),(1,u),(5,.int .i64 i)]∧H'=H++[]∧i≤b.length∧orderS a b=orderS (a.drop i) (b.drop i)) ⟨rfl,rfl,by omega,rfl⟩ ?_
 rintro i _ _ hi ⟨rfl,rfl,hi',hb⟩
 have fin:(¬ i<a.length∨¬ i<b.length)→orderS a b=if decide (((a.map AV.str).length:Int)<(b.map AV.str).length) then -1 else if decide (((a.map AV.str).length:Int)>(b.map AV.str).length) then 1 else 0:=by
  intro h
  rw [hb,hl,hl']
  by_cases h1:i<a.length
  ·have h2:b.length≤i:=by omega
   rw [List.drop_eq_nil_of_le h2,List.drop_eq_getElem_cons h1,if_neg (by simp;omega),if_pos (by simp;omega)];rfl
  ·have h1:a.length≤i:=by omega
   rw [List.drop_eq_nil_of_le h1]
   by_cases h2:i<b.length
   ·rw [List.drop_eq_getElem_cons h2,if_pos (by simp;omega)];rfl
   ·rw [List.drop_eq_nil_of_le (by omega),if_neg (by simp;omega),if_neg (by simp;omega)];rfl
 refine z0J ?_
 rw [e1]
 cases h1:decide (i<a.length)
 ·simp only [decide_eq_false_iff_not] at h1
  rw [fin (.inl h1)]
  refine z0J ?_
  cases h5:decide (((a.map AV.str).length:Int)<(b.map AV.str).length)
  ·refine z0J ?_
   cases h6:decide (((a.map AV.str).length:Int)>(b.map AV.str).length)
   ·refine z0J ?_
    exact fr
   ·refine z0J ?_
    exact fr
  ·refine z0J ?_
   exact fr
 ·simp only [decide_eq_true_eq] at h1
  refine z0J ?_
  rw [e2]
  cases h2:decide (i<b.length)
  ·simp only [decide_eq_false_iff_not] at h2
   rw [fin (.inr h2)]
   refine z0J ?_
   cases h5:decide (((a.map AV.str).length:Int)<(b.map AV.str).length)
   ·refine z0J ?_
    cases h6:decide (((a.map AV.str).length:Int)>(b.map AV.str).length)
    ·refine z0J ?_
     exact fr
    ·refine z0J ?_
     exact fr
   ·refine z0J ?_
    exact fr
  ·simp only [decide_eq_true_eq] at h2
   obtain ⟨x,hx⟩:=z1D (l:=a) (i:=i) (by omega)
   obtain ⟨y,hy⟩:=z1D (l:=b) (i:=i) (by omega)
   have hxu:=getmap (f:=AV.str) hx
   have hyu:=getmap (f:=AV.str) hy
   rw [z4H hx,z4H hy] at hb
   simp only [orderS] at hb
   refine z0J ?_
   cases h3:Op.bytesLess x y
   ·rw [h3] at hb
    refine z0J ?_
    cases h4:(!(Op.bytesLess x y||x==y))
    ·rw [h3] at h4
     rw [h4] at hb
     refine z0J ?_
     exact ⟨by omega,rfl,rfl,by omega,hb⟩
    ·rw [h3] at h4
     rw [h4] at hb
     rw [hb]
     refine z0J ?_
     exact fr
   ·rw [h3] at hb
    rw [hb]
    refine z0J ?_
    exact fr
theorem c17 {v u:AV} {a b:List (List UInt8)} (hv:Sl 1 v (a.map .str)) (hu:Sl 1 u (b.map .str)) (ha:a.length≤1000000000000) (H:Heap):ACall PP 17 [v,u] H (Just H (.bool (a==b))):=by
 refine ACall.gives (is17.c2 z0V mixed rfl ?_)
 refine z0J ?_
 refine z0G rfl (c45 hv hu ha _) ?_
 refine z0J ?_
 rw [order_zero]
 exact fr
theorem st_sliceTo {P:Program} {H:Heap} {al:AL} {K:KL} {Qp:AL→AV→Heap→Prop} {os:List IOper} {d:Nat} {x y:Arg} {sz i:Nat} {w:AV} {xs:List AV} (hx:evL al x=w) (hs:Sl sz w xs) (hy:evL al y=.int .i64 i) (hi:i≤xs.length)
  (h:∀ v',Sl sz v' (xs.take i)→VV P os ((d,v')::al) H K Qp):VV P (⟨some d,.i (.d (.sliceSl sz false true)),[x,y],none,none⟩::os) al H K Qp:=by
 cases hs with
 | nil =>
  have:i=0:=by simpa using hi
  subst this
  refine z2V (v:=.nilslice) ?_ (h _ (by simpa using Sl.nil))
  simp [evsL,hx,hy,dsem,dslice,bounds]
 | list =>
  refine z2V (v:=.list sz (xs.take i)) ?_ (h _ (.list _))
  simp only [evsL,hx,hy,dsem,dslice,if_true,bounds]
  rw [if_pos ⟨by omega,by omega⟩]
  simp
theorem st_mkf {P:Program} {H:Heap} {al:AL} {K:KL} {Qp:AL→AV→Heap→Prop} {os:List IOper} {d:Nat} {fn:Fn} {as_:List Arg} {vs:List AV} (ha:evsL al as_=vs)
  (h:VV P os ((d,.clo fn [] vs)::al) H K Qp):VV P (⟨some d,.i (.d (.mkFunc fn 0)),as_,none,none⟩::os) al H K Qp:=z2V (v:=.clo fn [] vs) (by rw [ha];rfl) h
structure Wd where
 nl:Bool
 l:List (List UInt8)
def encW (w:Wd):AV:=if w.nl&&w.l.isEmpty then .nilslice else .list 1 (w.l.map .str)
theorem sl_W (w:Wd):Sl 1 (encW w) (w.l.map .str):=by
 obtain ⟨nl,l⟩:=w
 unfold encW
 cases l with
 | nil=>cases nl<;>first | exact .nil | exact .list []
 | cons x xs=>simp only [List.isEmpty_cons,Bool.and_false,Bool.false_eq_true,if_false];exact .list _
theorem scalar_W (w:Wd):AV.scalar (encW w)=true:=by unfold encW;split<;>rfl
structure Pr where
 a:Wd
 b:Wd
def encP (p:Pr):AV:=.agg [encW p.a,encW p.b]
abbrev okP (p:Pr):Prop:=okW p.a.l∧okW p.b.l
theorem all_W {a b:Wd}:([encW a,encW b]:List AV).all AV.scalar=true:=by
 simp only [List.all_cons,scalar_W,List.all_nil];rfl
theorem c140 {v:AV} {w:List Pr} (hv:Sl 2 v (w.map encP)) (hw:w.length≤1000000000000) {g:FuncId} {fs cs:List AV} {p:Pr→Bool} (hg:hasBody PP g=true) {H:Heap}
  (hp:∀ s∈w,ACall PP g (fs++[encP s]++cs) H (Just H (.bool (p s)))) :
  ACall PP 140 [v,.clo (.func g) fs cs] H (Just H (.int .i64 (idxI (w.findIdx? p)))):=by
 have hl:(w.map encP).length=w.length:=List.length_map _
 refine ACall.gives (is140.c2 z0V mixed rfl ?_)
 refine z0J ?_
 refine z1F w.length (fun i al H'=>al=[(0,v),(1,.clo (.func g) fs cs),(7,.int .i64 (w.map encP).length),(8,.int .i64 i)]∧H'=H++[]∧∀ k c,k<i→w[k]? =some c→p c=false) ⟨rfl,rfl,by omega⟩ ?_
 rintro i _ _ hi ⟨rfl,rfl,hb⟩
 refine z0J ?_
 refine z0W _ rfl ?_ ?_<;>intro hc
 ·simp only [decide_eq_true_eq] at hc
  obtain ⟨c,hc⟩:=z1D (l:=w) (i:=i) (by omega)
  have hu:(w.map encP)[i]? =some (.agg [encW c.a,encW c.b]):=getmap (f:=encP) hc
  have hpc':=hp c (List.mem_of_getElem? hc)
  rw [←List.append_nil H] at hpc'
  refine z0J ?_
  refine st_callv rfl hg hpc' ?_
  refine z0J ?_
  refine z0W _ rfl ?_ ?_<;>intro hpc
  ·have:w.findIdx? p=some i:=by
    rw [List.findIdx?_eq_some_iff_getElem]
    refine ⟨by omega,?_,?_⟩
    ·rw [List.getElem?_eq_getElem (by omega)] at hc;injection hc with hc;rw [hc];exact hpc
    ·intro j hj;rw [hb j _ hj (List.getElem?_eq_getElem (by omega))];simp
   rw [this]
   refine z0J ?_
   exact fr
  ·refine z0J ?_
   refine ⟨by omega,rfl,rfl,?_⟩
   intro k d hk hd
   rcases Nat.lt_succ_iff_lt_or_eq.1 hk with h | h
   ·exact hb k d h hd
   ·subst h;rw [hc] at hd;injection hd with hd;rw [←hd];exact hpc
 ·simp only [decide_eq_false_iff_not] at hc
  have:w.findIdx? p=none:=by
   rw [List.findIdx?_eq_none_iff]
   intro x hx
   obtain ⟨k,hk,rfl⟩:=List.getElem_of_mem hx
   exact hb k _ (by omega) (List.getElem?_eq_getElem hk)
  rw [this]
  refine z0J ?_
  exact fr
theorem c81 {v:AV} {w:List Pr} (hv:Sl 2 v (w.map encP)) (hw:w.length≤1000000000000) {g:FuncId} {fs cs:List AV} {p:Pr→Bool} (hg:hasBody PP g=true) {H:Heap}
  (hp:∀ s∈w,ACall PP g (fs++[encP s]++cs) H (Just H (.bool (p s)))) :
  ACall PP 81 [v,.clo (.func g) fs cs] H (Just H (.bool (w.any p))):=by
 refine ACall.gives (is81.c2 z0V mixed rfl ?_)
 rw [←List.append_nil H] at hp
 refine z0J ?_
 refine z0G rfl (c140 hv hw hg hp) ?_
 refine z0J ?_
 rw [ge0_find]
 exact fr
def sameP (p q:Pr):Bool:=(p.a.l==q.a.l)&&(p.b.l==q.b.l)
theorem c79 {p q:Pr} (hp:okP p) {id:Nat} {H:Heap} (hb:H[id]? =some (.cells [encW p.a,encW p.b])):ACall PP 79 [encP q,.ptr id 0] H (Just H (.bool (sameP p q))):=by
 have h1:=fun H=>c80 (sl_W p.a) (sl_W q.a) hp.1.1 H
 have h2:=fun H=>c80 (sl_W p.b) (sl_W q.b) hp.2.1 H
 refine ACall.gives (is79.c2 z0V mixed rfl ?_)
 unfold encP
 refine z0J ?_
 refine z0G rfl (h1 _) ?_
 refine z0J ?_
 cases h3:(p.a.l==q.a.l)
 ·rw [show sameP p q=false by simp only [sameP,h3];rfl]
  refine z0J ?_
  exact fr
 ·rw [show sameP p q=(p.b.l==q.b.l) by simp only [sameP,h3,Bool.true_and]]
  refine z0J ?_
  refine z0G rfl (h2 _) ?_
  refine z0J ?_
  exact fr
def twiceAt (l:List Pr) (i:Nat):Bool :=
 match l[i]? with
 | none=>false
 | some p=>(p.a.l==[])||(l.take i).any (sameP p)
def twice (l:List Pr):Bool:=(List.range l.length).any (twiceAt l)
theorem c40 {v:AV} {w:List Pr} (hv:Sl 2 v (w.map encP)) (hw:w.length≤1000000000000) (hok:∀ p∈w,okP p) (H:Heap):ACall PP 40 [v] H (Just H (.bool (twice w))):=by
 have hl:(w.map encP).length=w.length:=List.length_map _
 refine ACall.gives (is40.c1 z0V mixed rfl ?_)
 refine z0J ?_
 refine z1F w.length (fun i al H'=>al=[(0,v),(6,v),(7,.int .i64 (w.map encP).length),(8,.int .i64 i)]∧Ext H H'∧∀ k,k<i→twiceAt w k=false) ⟨rfl,⟨_,rfl⟩,by omega⟩ ?_
 rintro i _ H1 hi ⟨rfl,hx,hb⟩
 refine wi_nil ?_
 refine z0J ?_
 refine z0W _ rfl ?_ ?_<;>intro hc
 ·simp only [decide_eq_true_eq] at hc
  obtain ⟨c,hc⟩:=z1D (l:=w) (i:=i) (by omega)
  have hm:=List.mem_of_getElem? hc
  have hu:(w.map encP)[i]? =some (.agg [encW c.a,encW c.b]):=getmap (f:=encP) hc
  have ht:twiceAt w i=((c.a.l==[])||(w.take i).any (sameP c)):=by simp only [twiceAt,hc]
  have htw:twiceAt w i=true→twice w=true:=fun h=>List.any_eq_true.2 ⟨i,List.mem_range.2 (by omega),h⟩
  have e0:(((c.a.l.map AV.str).length:Int)==0)=(c.a.l==[]):=by
   cases c.a.l<;>simp
   omega
  have hsW:=sl_W c.a
  refine z0J ?_
  refine z2T (n:=0) (ws:=[encW c.a,encW c.b]) rfl rfl rfl rfl rfl all_W rfl ?_
  refine z0J ?_
  refine st_mkf (vs:=[.ptr (H1.length+0) 0]) rfl ?_
  refine z0J ?_
  rw [e0]
  cases h1:(c.a.l==[])
  ·refine z0J ?_
   refine st_sliceTo rfl hv rfl (by omega) ?_
   intro v' hv'
   refine z0J ?_
   have hv'':Sl 2 v' ((w.take i).map encP):=by rw [List.map_take];exact hv'
   have hcl:∀ q∈w.take i,ACall PP 79 ([]++[encP q]++[.ptr (H1.length+0) 0]) (H1++[.cells [encW c.a,encW c.b]]) (Just (H1++[.cells [encW c.a,encW c.b]]) (.bool (sameP c q))) :=
    fun q hq=>c79 (hok c hm) hp_new
   refine z0G rfl (c81 hv'' (by simp;omega) is79.hasBody hcl) ?_
   refine z0J ?_
   refine z0W _ rfl ?_ ?_<;>intro h2
   ·rw [htw (by rw [ht,h1,h2];rfl)]
    refine z0J ?_
    exact z1G rfl (z0N (hx.app _) (Plain.bool _))
   ·refine z0J ?_
    refine ⟨by omega,rfl,hx.app _,?_⟩
    intro k hk
    rcases Nat.lt_succ_iff_lt_or_eq.1 hk with h | h
    ·exact hb k h
    ·subst h;rw [ht,h1,h2];rfl
  ·rw [htw (by rw [ht,h1];rfl)]
   refine z0J ?_
   exact z1G rfl (z0N (hx.app _) (Plain.bool _))
 ·simp only [decide_eq_false_iff_not] at hc
  have:twice w=false:=by
   rw [twice,List.any_eq_false];intro k hk;rw [hb k (by have:=List.mem_range.1 hk;omega)];simp
  rw [this]
  refine z0J ?_
  exact z1G rfl (z0N (hx.app _) (Plain.bool _))
set_option maxHeartbeats 8000000
def sel3 (S0 S1 S2:AL→Heap→Prop):Nat→AL→Heap→Prop
 | 0=>S0
 | 1=>S1
 | 2=>S2
 | _+3=>fun _ _=>False
theorem then_mono {K K':AL→Heap→Prop} {Q:PL} (hk:∀ al H,K al H→K' al H):∀ x al H,LX.then K Q x al H→LX.then K' Q x al H:=by
 intro x al H q
 cases x with
 | normal=>exact hk _ _ q
 | _=>exact q
theorem iw_loop2 {P:Program} {H:Heap} {al:AL} {Q:PL} {c:IC} {keep:List Nat} (S0 S1 S2:AL→Heap→Prop) (h:S0 (keepL al keep) H)
  (h0:∀ al H,S0 al H→WI P c (LX.then (fun al' H'=>S1 (keepL al' keep) H') Q) al H)
  (h1:∀ al H,S1 al H→WI P c (LX.then (fun al' H'=>S2 (keepL al' keep) H') Q) al H)
  (h2:∀ al H,S2 al H→WI P c (LX.then (fun _ _=>False) Q) al H):WI P (.loop (some keep) c) Q al H:=by
 refine z1F 3 (sel3 S0 S1 S2) h ?_
 intro i al H hi hS
 match i,hi,hS with
 | 0,hi,hS=>exact (h0 al H hS).mono (then_mono fun al H q=>⟨by omega,q⟩)
 | 1,hi,hS=>exact (h1 al H hS).mono (then_mono fun al H q=>⟨by omega,q⟩)
 | 2,hi,hS=>exact (h2 al H hS).mono (then_mono fun al H q=>q.elim)
 | i+3,hi,hS=>exact hS.elim
abbrev Pl:=Ex × Ex
def encPl (p:Pl):AV:=match p with
 | (.mk a b c d,.mk a' b' c' d')=>.agg [.int .i64 a,.str b,lst c d,.int .i64 a',.str b',lst c' d']
structure Ru where
 kind:Int
 pn:Bool
 pairs:List Pr
 ln:Bool
 places:List Pl
 below:Bool
def encPs (nl:Bool) (l:List Pr):AV:=if nl&&l.isEmpty then .nilslice else .list 2 (l.map encP)
def encLs (nl:Bool) (l:List Pl):AV:=if nl&&l.isEmpty then .nilslice else .list 6 (l.map encPl)
theorem sl_Ps (nl:Bool) (l:List Pr):Sl 2 (encPs nl l) (l.map encP):=by
 unfold encPs
 cases l with
 | nil=>cases nl<;>first | exact .nil | exact .list []
 | cons x xs=>simp only [List.isEmpty_cons,Bool.and_false,Bool.false_eq_true,if_false];exact .list _
theorem sl_Ls (nl:Bool) (l:List Pl):Sl 6 (encLs nl l) (l.map encPl):=by
 unfold encLs
 cases l with
 | nil=>cases nl<;>first | exact .nil | exact .list []
 | cons x xs=>simp only [List.isEmpty_cons,Bool.and_false,Bool.false_eq_true,if_false];exact .list _
theorem scalar_Ls (nl:Bool) (l:List Pl):AV.scalar (encLs nl l)=true:=by unfold encLs;split<;>rfl
def encR (r:Ru):AV:=.agg [.int .i64 r.kind,encPs r.pn r.pairs,encLs r.ln r.places,.bool r.below]
structure okR (r:Ru):Prop where
 np:r.pairs.length≤1000000000000
 nl:r.places.length≤1000000000000
 ps:∀ p∈r.pairs,okP p
 ls:∀ p∈r.places,okE p.1∧okE p.2
def longP (p:Pr):Bool:=decide ((p.a.l.length:Int)>6)||decide ((p.b.l.length:Int)>60)
def perr:List Pr→Int
 | []=>0
 | p::ps=>if vword p.a.l != 0 then vword p.a.l else if vword p.b.l != 0 then vword p.b.l else perr ps
def lerr (v:Ex→Int):List Pl→Int
 | []=>0
 | p::ps=>if v p.1 != 0 then v p.1 else if v p.2 != 0 then v p.2 else lerr v ps
def formR (r:Ru):Bool:=decide (r.kind<0)||decide (r.kind>3)||((r.pairs.length:Int)==0)||(r.below&&decide (r.kind<2))||twice r.pairs
def oddPl (p:Pl):Bool:=p.1.odd||p.2.odd
def vrule (r:Ru):Int :=
 if decide ((r.pairs.length:Int)>24)||decide ((r.places.length:Int)>24) then 3 else if r.pairs.any longP then 3 else
 if perr r.pairs != 0 then perr r.pairs else if lerr vexpr r.places != 0 then lerr vexpr r.places else if formR r then 1 else if r.places.any oddPl then 1 else 0
theorem all_Pl {a a':Int} {b b':List UInt8} {c c':Bool} {d d':List Ex}:([.int .i64 a,.str b,lst c d,.int .i64 a',.str b',lst c' d']:List AV).all AV.scalar=true:=by
 simp only [List.all_cons,scalar_lst,List.all_nil];rfl
theorem fill2W {a b:Wd}:fillA (if 2*1=0 then [] else copies 2 [.nilslice]) [(0,1),(1,1)] [encW a,encW b]=some [encW a,encW b]:=by
 unfold encW
 generalize (a.nl&&a.l.isEmpty)=p
 generalize (b.nl&&b.l.isEmpty)=q
 cases p<;>cases q<;>rfl
theorem c15 (r:Ru) (hr:okR r) (H:Heap):ACall PP 15 [encR r] H (Just H (.int .i64 (vrule r))):=by
 obtain ⟨kind,pn,pairs,ln,places,below⟩:=r
 obtain ⟨hnp,hnl,hps,hls⟩:=hr
 simp only at hnp hnl hps hls
 have hsp:=sl_Ps pn pairs
 have hsl:=sl_Ls ln places
 have hlp:(pairs.map encP).length=pairs.length:=List.length_map _
 have hll:(places.map encPl).length=places.length:=List.length_map _
 have e1:∀ k:Int,decide (((pairs.map encP).length:Int)>k)=decide ((pairs.length:Int)>k):=fun k=>by rw [hlp]
 have e2:∀ k:Int,decide (((places.map encPl).length:Int)>k)=decide ((places.length:Int)>k):=fun k=>by rw [hll]
 have e3:(((pairs.map encP).length:Int)==0)=((pairs.length:Int)==0):=by rw [hlp]
 have hv:vrule ⟨kind,pn,pairs,ln,places,below⟩=if decide ((pairs.length:Int)>24)||decide ((places.length:Int)>24) then 3 else if pairs.any longP then 3 else
   if perr pairs != 0 then perr pairs else if lerr vexpr places != 0 then lerr vexpr places else if formR ⟨kind,pn,pairs,ln,places,below⟩ then 1 else if places.any oddPl then 1 else 0:=rfl
 refine ACall.gives (is15.c1 z0V mixed rfl ?_)
 unfold encR
 rw [hv]
 refine z0J ?_
 rw [e1]
 refine z1Y [(1,.ptr (H.length+0) 0),(26,.bool (decide ((pairs.length:Int)>24)||decide ((places.length:Int)>24)))] (H++[.cells [.int .i64 kind,encPs pn pairs,encLs ln places,.bool below]]) ?_ ?_
 ·cases h1:decide ((pairs.length:Int)>24)
  ·refine z0J ?_
   rw [e2]
   refine z0J ?_
   exact z0S rfl rfl
  ·refine z0J ?_
   exact z0S rfl rfl
 refine nx_n ?_
 refine z0W _ rfl ?_ ?_<;>intro h1
 ·rw [h1]
  refine z0J ?_
  exact fr
 rw [h1]
 refine z0J ?_
 refine z1F pairs.length (fun i al H'=>al=[(1,.ptr (H.length+0) 0),(28,encPs pn pairs),(29,.int .i64 (pairs.map encP).length),(30,.int .i64 i)]∧Ext H H' ∧
  H'[H.length+0]? =some (.cells [.int .i64 kind,encPs pn pairs,encLs ln places,.bool below])∧(pairs.take i).any longP=false) ⟨rfl,⟨_,rfl⟩,hp_new,by simp⟩ ?_
 rintro i _ H1 hi ⟨rfl,hx,hb,ha⟩
 refine wi_nil ?_
 refine z0J ?_
 refine z0W _ rfl ?_ ?_<;>intro hc
 ·simp only [decide_eq_true_eq] at hc
  obtain ⟨c,hc⟩:=z1D (l:=pairs) (i:=i) (by omega)
  have hu:(pairs.map encP)[i]? =some (.agg [encW c.a,encW c.b]):=getmap (f:=encP) hc
  have ht:=z1P (p:=longP) hc
  have hany:=z2R (p:=longP) hc
  have s1:=sl_W c.a
  have s2:=sl_W c.b
  have l1:∀ k:Int,decide (((c.a.l.map AV.str).length:Int)>k)=decide ((c.a.l.length:Int)>k):=fun k=>by rw [List.length_map]
  have l2:∀ k:Int,decide (((c.b.l.map AV.str).length:Int)>k)=decide ((c.b.l.length:Int)>k):=fun k=>by rw [List.length_map]
  refine z0J ?_
  refine z2T (n:=0) (ws:=[encW c.a,encW c.b]) rfl rfl rfl rfl rfl all_W rfl ?_
  refine z0J ?_
  rw [l1]
  cases h2:decide ((c.a.l.length:Int)>6)
  ·refine z0J ?_
   rw [l2]
   cases h3:decide ((c.b.l.length:Int)>60)
   ·refine z0J ?_
    exact ⟨by omega,rfl,hx.app _,z0F hb,by rw [ht,ha];simp only [longP,h2,h3];rfl⟩
   ·rw [hany (by simp only [longP,h2,h3];rfl)]
    refine z0J ?_
    exact z1G rfl (z0N (hx.app _) (Plain.int _ _))
  ·rw [hany (by simp only [longP,h2];rfl)]
   refine z0J ?_
   exact z1G rfl (z0N (hx.app _) (Plain.int _ _))
 simp only [decide_eq_false_iff_not] at hc
 have:i=pairs.length:=by omega
 subst this
 rw [List.take_length] at ha
 rw [ha]
 clear hc hi
 refine z0J ?_
 refine z1F pairs.length (fun i al H'=>al=[(1,.ptr (H.length+0) 0),(46,encPs pn pairs),(47,.int .i64 (pairs.map encP).length),(48,.int .i64 i)]∧Ext H H' ∧
  H'[H.length+0]? =some (.cells [.int .i64 kind,encPs pn pairs,encLs ln places,.bool below])∧perr pairs=perr (pairs.drop i)) ⟨rfl,hx.app _,z0F hb,rfl⟩ ?_
 clear hx hb ha H1
 rintro i _ H1 hi ⟨rfl,hx,hb,ha⟩
 refine wi_nil ?_
 refine z0J ?_
 refine z0W _ rfl ?_ ?_<;>intro hc
 ·simp only [decide_eq_true_eq] at hc
  obtain ⟨c,hc⟩:=z1D (l:=pairs) (i:=i) (by omega)
  have hu:(pairs.map encP)[i]? =some (.agg [encW c.a,encW c.b]):=getmap (f:=encP) hc
  have hok:=hps c (List.mem_of_getElem? hc)
  rw [z4H hc] at ha
  simp only [perr] at ha
  have k1:=fun H=>c38 (sl_W c.a) hok.1 H
  have k2:=fun H=>c38 (sl_W c.b) hok.2 H
  refine z0J ?_
  refine z2T (n:=0) (ws:=[encW c.a,encW c.b]) rfl rfl rfl rfl rfl all_W rfl ?_
  refine z0J ?_
  refine st_slice (out:=[encW c.a,encW c.b]) fill2W rfl rfl ?_
  refine z0J ?_
  have fin:∀ b,vword c.b.l=b→vword c.a.l=0→b≠0→perr pairs=b:=by
   intro b h1 h2 h3;rw [ha,h2,h1,if_neg (by simp),if_pos (by simpa using h3)]
  refine iw_loop2 (fun al H'=>al=[(1,.ptr (H.length+0) 0),(46,encPs pn pairs),(47,.int .i64 (pairs.map encP).length),(48,.int .i64 i),(56,.sl (H1.length+1) 0 2 1),(57,.int .i64 (2:Nat)),(58,.int .i64 (0:Nat))]∧H'=H1++[.cells [encW c.a,encW c.b],.cells [encW c.a,encW c.b]])
   (fun al H'=>al=[(1,.ptr (H.length+0) 0),(46,encPs pn pairs),(47,.int .i64 (pairs.map encP).length),(48,.int .i64 i),(56,.sl (H1.length+1) 0 2 1),(57,.int .i64 (2:Nat)),(58,.int .i64 (1:Nat))]∧H'=H1++[.cells [encW c.a,encW c.b],.cells [encW c.a,encW c.b]]∧vword c.a.l=0)
   (fun al H'=>al=[(1,.ptr (H.length+0) 0),(46,encPs pn pairs),(47,.int .i64 (pairs.map encP).length),(48,.int .i64 i),(56,.sl (H1.length+1) 0 2 1),(57,.int .i64 (2:Nat)),(58,.int .i64 (2:Nat))]∧H'=H1++[.cells [encW c.a,encW c.b],.cells [encW c.a,encW c.b]]∧vword c.a.l=0∧vword c.b.l=0)
   ⟨rfl,rfl⟩ ?_ ?_ ?_
  ·rintro _ _ ⟨rfl,rfl⟩
   refine z0J ?_
   refine z0G rfl (k1 _) ?_
   refine z0J ?_
   refine z0W _ rfl ?_ ?_<;>intro h1
   ·rw [ha,if_pos h1,if_pos h1]
    refine z0J ?_
    exact z1G rfl (z0N (hx.app _) (Plain.int _ _))
   ·refine z0J ?_
    exact ⟨rfl,rfl,by simpa using h1⟩
  ·rintro _ _ ⟨rfl,rfl,h0⟩
   refine z0J ?_
   refine z0G rfl (k2 _) ?_
   refine z0J ?_
   refine z0W _ rfl ?_ ?_<;>intro h1
   ·rw [fin _ rfl h0 (by simpa using h1),if_pos h1]
    refine z0J ?_
    exact z1G rfl (z0N (hx.app _) (Plain.int _ _))
   ·refine z0J ?_
    exact ⟨rfl,rfl,h0,by simpa using h1⟩
  ·rintro _ _ ⟨rfl,rfl,h0,h1⟩
   refine z0J ?_
   exact ⟨by omega,rfl,hx.app _,z0F hb,by rw [ha,h0,h1];rfl⟩
 simp only [decide_eq_false_iff_not] at hc
 have:i=pairs.length:=by omega
 subst this
 rw [List.drop_length] at ha
 rw [ha]
 clear hc hi
 refine z0J ?_
 refine z1F places.length (fun i al H'=>al=[(1,.ptr (H.length+0) 0),(70,encLs ln places),(71,.int .i64 (places.map encPl).length),(72,.int .i64 i)]∧Ext H H' ∧
  H'[H.length+0]? =some (.cells [.int .i64 kind,encPs pn pairs,encLs ln places,.bool below])∧lerr vexpr places=lerr vexpr (places.drop i)) ⟨rfl,hx.app _,z0F hb,rfl⟩ ?_
 clear hx hb ha H1
 rintro i _ H1 hi ⟨rfl,hx,hb,ha⟩
 refine wi_nil ?_
 refine z0J ?_
 refine z0W _ rfl ?_ ?_<;>intro hc
 ·simp only [decide_eq_true_eq] at hc
  obtain ⟨c,hc⟩:=z1D (l:=places) (i:=i) (by omega)
  obtain ⟨⟨o1,s1,n1,l1⟩,⟨o2,s2,n2,l2⟩⟩:=c
  have hu:(places.map encPl)[i]? =some (.agg [.int .i64 o1,.str s1,lst n1 l1,.int .i64 o2,.str s2,lst n2 l2]):=getmap (f:=encPl) hc
  have hok:=hls _ (List.mem_of_getElem? hc)
  rw [z4H hc] at ha
  simp only [lerr] at ha
  have k1:=fun H=>c39 (.mk o1 s1 n1 l1) hok.1 H
  have k2:=fun H=>c39 (.mk o2 s2 n2 l2) hok.2 H
  simp only [z0X] at k1 k2
  generalize vexpr (.mk o1 s1 n1 l1)=v1 at *
  generalize vexpr (.mk o2 s2 n2 l2)=v2 at *
  refine z0J ?_
  refine z2T (n:=0) (ws:=[.int .i64 o1,.str s1,lst n1 l1,.int .i64 o2,.str s2,lst n2 l2]) rfl rfl rfl rfl rfl all_Pl rfl ?_
  refine z0J ?_
  refine st_slice (out:=[.int .i64 o1,.str s1,lst n1 l1,.int .i64 o2,.str s2,lst n2 l2]) rfl rfl rfl ?_
  refine z0J ?_
  refine iw_loop2 (fun al H'=>al=[(1,.ptr (H.length+0) 0),(70,encLs ln places),(71,.int .i64 (places.map encPl).length),(72,.int .i64 i),(80,.sl (H1.length+1) 0 2 3),(81,.int .i64 (2:Nat)),(82,.int .i64 (0:Nat))] ∧
    H'=H1++[.cells [.int .i64 o1,.str s1,lst n1 l1,.int .i64 o2,.str s2,lst n2 l2],.cells [.int .i64 o1,.str s1,lst n1 l1,.int .i64 o2,.str s2,lst n2 l2]])
   (fun al H'=>al=[(1,.ptr (H.length+0) 0),(70,encLs ln places),(71,.int .i64 (places.map encPl).length),(72,.int .i64 i),(80,.sl (H1.length+1) 0 2 3),(81,.int .i64 (2:Nat)),(82,.int .i64 (1:Nat))] ∧
    H'=H1++[.cells [.int .i64 o1,.str s1,lst n1 l1,.int .i64 o2,.str s2,lst n2 l2],.cells [.int .i64 o1,.str s1,lst n1 l1,.int .i64 o2,.str s2,lst n2 l2],.cells [.int .i64 o1,.str s1,lst n1 l1]]∧v1=0)
   (fun al H'=>al=[(1,.ptr (H.length+0) 0),(70,encLs ln places),(71,.int .i64 (places.map encPl).length),(72,.int .i64 i),(80,.sl (H1.length+1) 0 2 3),(81,.int .i64 (2:Nat)),(82,.int .i64 (2:Nat))] ∧
    (∃ G,H'=H1++G)∧v1=0∧v2=0) ⟨rfl,rfl⟩ ?_ ?_ ?_
  ·rintro _ _ ⟨rfl,rfl⟩
   refine z0J ?_
   refine z0G rfl (k1 _) ?_
   refine z0J ?_
   refine z0W _ rfl ?_ ?_<;>intro h1
   ·rw [ha,if_pos h1,if_pos h1]
    refine z0J ?_
    exact z1G rfl (z0N (hx.app _) (Plain.int _ _))
   ·refine z0J ?_
    exact ⟨rfl,rfl,by simpa using h1⟩
  ·rintro _ _ ⟨rfl,rfl,h0⟩
   refine z0J ?_
   refine z0G rfl (k2 _) ?_
   refine z0J ?_
   refine z0W _ rfl ?_ ?_<;>intro h1
   ·rw [ha,h0,if_neg (by simp),if_pos h1,if_pos h1]
    refine z0J ?_
    exact z1G rfl (z0N (hx.app _) (Plain.int _ _))
   ·refine z0J ?_
    exact ⟨rfl,⟨_,rfl⟩,h0,by simpa using h1⟩
  ·rintro _ _ ⟨rfl,⟨G,rfl⟩,h0,h1⟩
   refine z0J ?_
   exact ⟨by omega,rfl,hx.app _,z0F hb,by rw [ha,h0,h1];rfl⟩
 simp only [decide_eq_false_iff_not] at hc
 have:i=places.length:=by omega
 subst this
 rw [List.drop_length] at ha
 rw [ha]
 clear hc hi
 have hm:∀ b,formR ⟨kind,pn,pairs,ln,places,below⟩=b→(decide (kind<0)||decide (kind>3)||((pairs.length:Int)==0)||(below&&decide (kind<2))||twice pairs)=b:=fun b h=>h
 refine z0J ?_
 refine vv_cutE [(1,.ptr (H.length+0) 0),(120,.bool (formR ⟨kind,pn,pairs,ln,places,below⟩))] (fun h=>Ext H h∧h[H.length+0]? =some (.cells [.int .i64 kind,encPs pn pairs,encLs ln places,.bool below])) ?_ ?_
 ·have k40:=fun H=>c40 hsp hnp hps H
  have hf:∀ b,(decide (kind<0)||decide (kind>3)||((pairs.length:Int)==0)||(below&&decide (kind<2))||twice pairs)=b→formR ⟨kind,pn,pairs,ln,places,below⟩=b:=fun b h=>h
  have hfin:decide (kind<0)=false→decide (kind>3)=false→((pairs.length:Int)==0)=false→(below&&decide (kind<2))=false→formR ⟨kind,pn,pairs,ln,places,below⟩=twice pairs:=by
   intro a b c d;exact hf _ (by rw [a,b,c,d];simp)
  cases h2:decide (kind<0)
  ·refine z0J ?_
   cases h3:decide (kind>3)
   ·refine z0J ?_
    rw [e3]
    cases h4:((pairs.length:Int)==0)
    ·refine z0J ?_
     cases below
     ·rw [hfin h2 h3 h4 rfl]
      refine z0J ?_
      refine z0G rfl (k40 _) ?_
      refine z0J ?_
      exact z2E rfl ⟨hx.app _,z0F hb⟩
     ·refine z0J ?_
      cases h5:decide (kind<2)
      ·rw [hfin h2 h3 h4 h5]
       refine z0J ?_
       refine z0G rfl (k40 _) ?_
       refine z0J ?_
       exact z2E rfl ⟨hx.app _,z0F hb⟩
      ·rw [hf true (by rw [h5];simp)]
       refine z0J ?_
       exact z2E rfl ⟨hx.app _,z0F hb⟩
    ·rw [hf true (by rw [h4];simp)]
     refine z0J ?_
     exact z2E rfl ⟨hx.app _,z0F hb⟩
   ·rw [hf true (by rw [h3];simp)]
    refine z0J ?_
    exact z2E rfl ⟨hx.app _,z0F hb⟩
  ·rw [hf true (by rw [h2];rfl)]
   refine z0J ?_
   exact z2E rfl ⟨hx.app _,z0F hb⟩
 clear hx hb ha H1
 rintro H1 ⟨hx,hb⟩
 refine nx_n ?_
 refine z0W _ rfl ?_ ?_<;>intro hfo
 ·rw [hfo]
  refine z0J ?_
  exact z1G rfl (z0N hx (Plain.int _ _))
 rw [hfo]
 refine z0J ?_
 refine z1F places.length (fun i al H'=>al=[(122,encLs ln places),(123,.int .i64 (places.map encPl).length),(124,.int .i64 i)]∧Ext H H'∧(places.take i).any oddPl=false) ⟨rfl,hx,by simp⟩ ?_
 clear hx hb H1
 rintro i _ H1 hi ⟨rfl,hx,ha⟩
 refine wi_nil ?_
 refine z0J ?_
 refine z0W _ rfl ?_ ?_<;>intro hc
 ·simp only [decide_eq_true_eq] at hc
  obtain ⟨c,hc⟩:=z1D (l:=places) (i:=i) (by omega)
  have ht:=z1P (p:=oddPl) hc
  have hany:=z2R (p:=oddPl) hc
  have hok:=hls _ (List.mem_of_getElem? hc)
  have k1:=fun H=>c41 c.1 hok.1 H
  have k2:=fun H=>c41 c.2 hok.2 H
  have ho:oddPl c=(c.1.odd||c.2.odd):=rfl
  generalize oddPl c=q at *
  generalize c.1.odd=q1 at *
  generalize c.2.odd=q2 at *
  obtain ⟨⟨o1,s1,n1,l1⟩,⟨o2,s2,n2,l2⟩⟩:=c
  have hu:(places.map encPl)[i]? =some (.agg [.int .i64 o1,.str s1,lst n1 l1,.int .i64 o2,.str s2,lst n2 l2]):=getmap (f:=encPl) hc
  simp only [z0X] at k1 k2
  refine z0J ?_
  refine z2T (n:=0) (ws:=[.int .i64 o1,.str s1,lst n1 l1,.int .i64 o2,.str s2,lst n2 l2]) rfl rfl rfl rfl rfl all_Pl rfl ?_
  refine z0J ?_
  refine z0G rfl (k1 _) ?_
  refine z0J ?_
  cases q1
  ·refine z0J ?_
   refine z0G rfl (k2 _) ?_
   refine z0J ?_
   cases q2
   ·refine z0J ?_
    exact ⟨by omega,rfl,hx.app _,by rw [ht,ha,ho];rfl⟩
   ·rw [hany ho]
    refine z0J ?_
    exact z1G rfl (z0N (hx.app _) (Plain.int _ _))
  ·rw [hany ho]
   refine z0J ?_
   exact z1G rfl (z0N (hx.app _) (Plain.int _ _))
 simp only [decide_eq_false_iff_not] at hc
 have:i=places.length:=by omega
 subst this
 rw [List.take_length] at ha
 rw [ha]
 refine z0J ?_
 exact z1G rfl (z0N (hx.app _) (Plain.int _ _))
set_option maxHeartbeats 4000000
def entsF:Nat→List (List UInt8)→Ents
 | _,[]=>[]
 | n,k::ks=>(.str k,.bool true,n)::entsF (n+1) ks
def MB (ks:List (List UInt8)):Blk:=.map (entsF 0 ks) ks.length
theorem z4G {H:Heap} {M:Nat} {b:Blk} (h:H[M]? =some b):H.set M b=H:=by
 apply List.ext_getElem?
 intro i
 rw [List.getElem?_set]
 by_cases e:M=i
 ·subst e;rw [if_pos rfl,h,if_pos (List.getElem?_eq_some_iff.1 h).1]
 ·rw [if_neg e]
section steps
variable {P:Program} {H G:Heap} {al:AL} {K:KL} {Qp:AL→AV→Heap→Prop} {os:List IOper} {x y:Arg}
end steps
def Upd (H:Heap) (M:Nat) (ks:List (List UInt8)) (H':Heap):Prop:=M<H.length∧∃ G,H'=H.set M (MB ks)++G
theorem Upd.refl {H:Heap} {M:Nat} {ks:List (List UInt8)} (h:H[M]? =some (MB ks)):Upd H M ks H:=⟨(List.getElem?_eq_some_iff.1 h).1,[],by rw [z4G h,List.append_nil]⟩
theorem Upd.app {H H':Heap} {M:Nat} {ks:List (List UInt8)} (h:Upd H M ks H') (G:Heap):Upd H M ks (H'++G):=by obtain ⟨h0,G',rfl⟩:=h;exact ⟨h0,G'++G,by rw [List.append_assoc]⟩
theorem Upd.set {H H':Heap} {M:Nat} {ks ks2:List (List UInt8)} (h:Upd H M ks H'):Upd H M ks2 (H'.set M (MB ks2)):=by
 obtain ⟨h0,G',rfl⟩:=h
 exact ⟨h0,G',by rw [List.set_append_left _ _ (by simpa using h0),List.set_set]⟩
theorem Upd.get {H H':Heap} {M:Nat} {ks:List (List UInt8)} (h:Upd H M ks H'):H'[M]? =some (MB ks):=by
 obtain ⟨h0,G',rfl⟩:=h
 rw [List.getElem?_append_left (by simpa using h0),List.getElem?_set,if_pos rfl,if_pos h0]
theorem Upd.old {H H':Heap} {M id:Nat} {ks:List (List UInt8)} {b:Blk} (h:Upd H M ks H') (hne:id≠M) (hg:H[id]? =some b):H'[id]? =some b:=by
 obtain ⟨h0,G',rfl⟩:=h
 have:=(List.getElem?_eq_some_iff.1 hg).1
 rw [List.getElem?_append_left (by simpa using this),List.getElem?_set,if_neg (fun e=>hne e.symm)];exact hg
theorem Upd.trans {H H1 H2:Heap} {M:Nat} {ks ks2:List (List UInt8)} (h:Upd H M ks H1) (k:Upd H1 M ks2 H2):Upd H M ks2 H2:=by
 obtain ⟨h0,G,rfl⟩:=h
 obtain ⟨_,G2,rfl⟩:=k
 exact ⟨h0,G++G2,by rw [List.set_append_left _ _ (by simpa using h0),List.set_set,List.append_assoc]⟩
theorem flat_strs (l:List (List UInt8)):flat (l.map AV.str)=l.map AV.str:=by
 induction l with
 | nil=>rfl
 | cons a l ih=>show [AV.str a]++flat (l.map AV.str)=_;rw [ih];rfl
theorem all_strs (l:List (List UInt8)):(l.map AV.str).all AV.scalar=true:=by
 rw [List.all_eq_true];intro x hx;obtain ⟨s,_,rfl⟩:=List.mem_map.1 hx;rfl
theorem plain_W (w:Wd):Plain (encW w):=by
 unfold encW;split
 ·exact Plain.nilslice
 ·exact Plain.list _ fun x hx=>by obtain ⟨s,_,rfl⟩:=List.mem_map.1 hx;exact Plain.str s
section steps
variable {P:Program} {H G:Heap} {al:AL} {K:KL} {Qp:AL→AV→Heap→Prop} {os:List IOper} {d:Nat} {x y:Arg}
end steps
set_option maxHeartbeats 8000000
theorem Upd.base {H G H':Heap} {M:Nat} {ks:List (List UInt8)} (h:Upd (H++G) M ks H') (hM:M<H.length):Upd H M ks H':=by
 obtain ⟨_,G',rfl⟩:=h
 exact ⟨hM,G++G',by rw [List.set_append_left _ _ hM,List.append_assoc]⟩
theorem z4N {α:Type} {l:List α} {i:Nat} {c:α} (h:l[i]? =some c):l.take (i+1)=l.take i++[c]:=by
 rw [List.take_add_one,h];rfl
end Go.Ab
