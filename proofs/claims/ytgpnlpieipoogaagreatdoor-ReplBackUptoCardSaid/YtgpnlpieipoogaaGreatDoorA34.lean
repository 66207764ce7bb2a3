/- Part 34 of the proof. -/
import Derived.Test.YtgpnlpieipoogaaGreatDoorA22
import Derived.Test.YtgpnlpieipoogaaGreatDoorA26
import Derived.Test.YtgpnlpieipoogaaGreatDoorA31
set_option linter.unusedVariables false
set_option linter.unusedSimpArgs false
namespace Go.Ab
open Go
set_option maxRecDepth 100000
set_option maxHeartbeats 8000000
def sideBo (op:Int) (w:Bt):Bt:=if (op==14) then [91]++w++[93] else w
def sideTo (op:Int) (w:Bt) (left:Bool):Bt:=if (op==2) then [] else if left then sideBo op w++[32] else [32]++sideBo op w
def sideB (e:Ex):Bt:=sideBo e.op (textE e 0)
def sideT (e:Ex) (left:Bool):Bt:=sideTo e.op (textE e 0) left
theorem sideB_le (e:Ex):(sideB e).length≤21*e.w+2:=by
 have:=textE_le e 0
 unfold sideB sideBo
 split
 ·simp only [List.length_append,List.length_cons,List.length_nil];omega
 ·omega
theorem sideT_le (e:Ex) (b:Bool):(sideT e b).length≤21*e.w+3:=by
 have:=sideB_le e
 unfold sideB at this
 unfold sideT sideTo
 split
 ·simp
 ·split<;>simp only [List.length_append,List.length_cons,List.length_nil]<;>omega
def plc (p:Pl):Bt:=sideT p.1 true++[95]++sideT p.2 false
def plTs:List Pl→Bt
 | []=>[]
 | p::ps=>[32,59,32]++plc p++plTs ps
def plT:List Pl→Bt
 | []=>[]
 | p::ps=>plc p++plTs ps
theorem Is.c0 {P:Program} {H:Heap} {f:FuncId} {anns:List Ann} {F:IFunc} {R:CPost} (hnn:NoNum P) (hm:P.follows .mixedOrders=true) (hF:Is P f anns F) (hn:Nat.ble 0 F.n=true) (h:WI P F.body (fpostL F.rs R) [] (H++[])):ACall P f [] H R:=by
 rw [List.append_nil] at h;exact hF.call hnn hm hn h.1
structure Good (r:Ru):Prop where
 ps:∀ p∈r.pairs,vword p.a.l=0∧vword p.b.l=0
 ls:∀ p∈r.places,p.1.right=true∧p.2.right=true
 np:r.pairs.length≤24
 nl:r.places.length≤24
 k0:0≤r.kind
 k3:r.kind≤3
 ne:∀ p∈r.pairs,p.a.l≠[]
theorem perr_zero:∀ {l:List Pr},perr l=0→∀ p∈l,vword p.a.l=0∧vword p.b.l=0
 | p::ps,h,q,hq=>by
  simp only [perr] at h
  split at h
  ·rename_i h1;rw [h] at h1;exact absurd h1 (by decide)
  ·rename_i h1
   split at h
   ·rename_i h2;rw [h] at h2;exact absurd h2 (by decide)
   ·rename_i h2
    rcases List.mem_cons.1 hq with rfl | hq
    ·exact ⟨by simpa using h1,by simpa using h2⟩
    ·exact perr_zero h q hq
theorem lerr_zero {v:Ex→Int}:∀ {l:List Pl},lerr v l=0→∀ p∈l,v p.1=0∧v p.2=0
 | p::ps,h,q,hq=>by
  simp only [lerr] at h
  split at h
  ·rename_i h1;rw [h] at h1;exact absurd h1 (by decide)
  ·rename_i h1
   split at h
   ·rename_i h2;rw [h] at h2;exact absurd h2 (by decide)
   ·rename_i h2
    rcases List.mem_cons.1 hq with rfl | hq
    ·exact ⟨by simpa using h1,by simpa using h2⟩
    ·exact lerr_zero h q hq
theorem vexpr_right {e:Ex} (h:vexpr e=0):e.right=true:=by
 unfold vexpr at h
 split at h
 ·cases h
 ·split at h
  ·cases h
  ·rename_i h2;simpa using h2
theorem twice_ne:∀ {l:List Pr},twice l=false→∀ p∈l,p.a.l≠[]:=by
 intro l h p hp hn
 obtain ⟨i,hi,rfl⟩:=List.getElem_of_mem hp
 unfold twice at h
 rw [List.any_eq_false] at h
 have:=h i (by simpa using hi)
 unfold twiceAt at this
 rw [List.getElem?_eq_getElem hi] at this
 simp [hn] at this
theorem vword_le {w:List Bt} (h:vword w=0):w.length≤60∧(∀ s∈w,s.length≤16)∧(wtext w).length≤1080:=by
 unfold vword at h
 split at h;· cases h
 rename_i h1
 simp only [Bool.or_eq_true,decide_eq_true_eq,not_or,Bool.not_eq_true,List.any_eq_false] at h1
 have h2:∀ s∈w,s.length≤16:=by
  intro s hs
  have:=h1.2 s hs
  simp [isLongS] at this
  omega
 have h3:∀ w:List Bt,(∀ s∈w,s.length≤16)→(wtext w).length≤18*w.length:=by
  intro w
  induction w with
  | nil=>intro;simp [wtext]
  | cons x xs ih =>
   intro h
   have:=ih fun s hs=>h s (List.mem_cons_of_mem _ hs)
   have:=wSym_le x
   have:=h x (by simp)
   simp only [wtext,List.length_append,List.length_cons];omega
 have:=h3 w h2
 exact ⟨by omega,h2,by omega⟩
theorem ptext_le {w:List Bt} (h:vword w=0):(ptext w).length≤1082:=by
 have:=(vword_le h).2.2
 unfold ptext;split
 ·simp
 ·omega
def prc (k:Int) (p:Pr):Bt:=ptext p.a.l++[32]++arrowS k++[32]++ptext p.b.l
def prTs (k:Int):List Pr→Bt
 | []=>[]
 | p::ps=>[32,44,32]++prc k p++prTs k ps
def prT (k:Int):List Pr→Bt
 | []=>[]
 | p::ps=>prc k p++prTs k ps
theorem prTs_app (k:Int) (a b:List Pr):prTs k (a++b)=prTs k a++prTs k b:=by
 induction a with
 | nil=>rfl
 | cons x xs ih=>simp [prTs,ih]
theorem prT_snoc {k:Int} {ps:List Pr} {i:Nat} {p:Pr} (h:ps[i+1]? =some p):prT k (ps.take (i+1+1))=prT k (ps.take (i+1))++[32,44,32]++prc k p:=by
 match ps,h with
 | x::xs,h =>
  have h:xs[i]? =some p:=by simpa using h
  rw [List.take_succ_cons,List.take_succ_cons,z1U h]
  simp only [prT,prTs_app,prTs,List.append_nil,List.append_assoc]
theorem prT_one {k:Int} {ps:List Pr} {i:Nat} {p:Pr} (h:ps[i]? =some p) :
  prT k (ps.take (i+1))=(if decide ((i:Int)>0) then prT k (ps.take i)++[32,44,32] else prT k (ps.take i))++prc k p:=by
 cases i with
 | zero =>
  match ps,h with
  | x::xs,hc=>injection hc with hc;subst hc;simp [prT,prTs]
 | succ i =>
  rw [prT_snoc h,if_pos (by simp only [decide_eq_true_eq];omega)]
theorem arrowS_le (k:Int):(arrowS k).length≤4:=by
 unfold arrowS;repeat' split
 all_goals simp
theorem prT_le {k:Int} {ps:List Pr} (h:∀ p∈ps,vword p.a.l=0∧vword p.b.l=0):∀ i,(prT k (ps.take i)).length≤2173*i
 | 0=>by simp [prT]
 | i+1=>by
  have ih:=prT_le h (k:=k) i
  by_cases hi:i<ps.length
  ·have hg:=List.getElem?_eq_getElem hi
   have hm:=h _ (List.mem_of_getElem? hg)
   have h1:=ptext_le hm.1
   have h2:=ptext_le hm.2
   have h3:=arrowS_le k
   rw [prT_one hg]
   unfold prc
   split<;>simp only [List.length_append,List.length_cons,List.length_nil]<;>omega
  ·rw [List.take_of_length_le (by omega)]
   rw [List.take_of_length_le (by omega)] at ih
   omega
def brkP (p:Pr):Bool:=brk p.a.l||brk p.b.l
def lgP (p:Pr):Bool:=decide (((ptext p.a.l).length:Int)>400)||decide (((ptext p.b.l).length:Int)>400)
def tailR (r:Ru):Bt:=if r.below&&((r.places.length:Int)==0) then [32,47,47,32,95] else if r.below then [32,47,47,32]++plT r.places else if decide ((r.places.length:Int)>0) then [32,124,124,32]++plT r.places else []
def fullR (r:Ru):Bt:=prT r.kind r.pairs++tailR r
theorem good {r:Ru} (h:vrule r=0):Good r:=by
 unfold vrule at h
 split at h;· cases h
 rename_i h1
 split at h;· cases h
 split at h
 ·rename_i h2;rw [h] at h2;exact absurd h2 (by decide)
 rename_i h2
 split at h
 ·rename_i h3;rw [h] at h3;exact absurd h3 (by decide)
 rename_i h3
 split at h;· cases h
 rename_i h4
 have h2:perr r.pairs=0:=by simpa using h2
 have h3:lerr vexpr r.places=0:=by simpa using h3
 simp only [formR,Bool.or_eq_true,decide_eq_true_eq,not_or,Int.not_lt,Bool.not_eq_true] at h1 h4
 obtain ⟨h1a,h1b⟩:=h1
 obtain ⟨⟨⟨⟨h4a,h4b⟩,h4c⟩,h4d⟩,h4e⟩:=h4
 exact ⟨perr_zero h2,fun p hp=>⟨vexpr_right (lerr_zero h3 p hp).1,vexpr_right (lerr_zero h3 p hp).2⟩,by omega,by omega,by omega,by omega,twice_ne h4e⟩
def isSig (c:UInt8):Bool:=decide ((c.toNat:Int)>32)&&decide ((c.toNat:Int)<127)&&((c.toNat:Int) != 60)&&((c.toNat:Int) != 62)
def sg15:Bt:=[95,45,124,38,37,47,126,36,42,43,63,46,33,91,93]
def angN (r:Bt):Nat:=1+((r.drop 1).takeWhile isSig).length
def angOk (r:Bt):Bool:=decide (3≤angN r)&&decide (angN r≤17)&&decide (angN r<r.length)&&(r.getD (angN r) 0==62)
def tok (r:Bt):Option Bt :=
 match r with
 | []=>some []
 | c::t =>
  if r.take 2==[61,62]||r.take 2==[91,93] then some (r.take 2)
  else if isAl c||sg15.contains c then some [c]
  else if c==92&&(t != [])&&isSig (t.headD 0) && !isAl (t.headD 0) then some (r.take 2)
  else if c==60&&angOk r then some (r.take (angN r+1)) else none
inductive PR (α:Type) where
 | oof
 | bad
 | ok (a:α)
def PR.bind {α β:Type} (x:PR α) (f:α→PR β):PR β :=
 match x with
 | .oof=>.oof
 | .bad=>.bad
 | .ok a=>f a
def skp (s:Bt) (p:Nat):Nat:=p+((s.drop p).takeWhile (· == 32)).length
def tkn (s:Bt) (p:Nat):PR (Bt × Nat):=match tok (s.drop (skp s p)) with
 | none=>.bad
 | some t=>.ok (t,skp s p)
def tak (t s:Bt) (p:Nat):PR (Bool × Nat):=(tkn s p).bind fun x=>if x.1==t then .ok (true,x.2+t.length) else .ok (false,x.2)
def bgn (t:Bt):Bool:=(t != [])&&(t != [61,62])&&(decide (1<t.length)||isAl (t.headD 0)||([126,36,46,33,91]:Bt).contains (t.headD 0))
inductive Md where
 | only | but | or | and | shuffle | ignore | chain | ahead | atom
 | left (op:Int) (sg:Bt) (nx:Md)
 | all (op:Int) (sg:Bt) (nx:Md)
 | leftL (op:Int) (sg:Bt) (nx:Md) (a:Ex)
 | allL (op:Int) (sg:Bt) (nx:Md) (l:List Ex)
 | chainL (l:List Ex)
 | postL (a:Ex)
def nd (op:Int) (l:List Ex):Ex:=.mk op [] false l
def lf (op:Int):Ex:=.mk op [] true []
def oneOr (op:Int) (l:List Ex):Ex:=match l with
 | [x]=>x
 | _=>nd op l
def pe:Nat→Md→Bt→Nat→PR (Ex × Nat)
 | 0,_,_,_=>.oof
 | n+1,.only,s,p=>(pe n .but s p).bind fun a=>(tak [61,62] s a.2).bind fun y=>if y.1 then
   (tkn s y.2).bind fun t=>(if t.1==[95] then .ok (lf 2,t.2) else pe n .but s t.2).bind fun l=>(tak [95] s l.2).bind fun z=>if z.1 then
    (tkn s z.2).bind fun u=>(if u.1==[]||u.1==[93] then .ok (lf 2,u.2) else pe n .but s u.2).bind fun r=>.ok (nd 14 [a.1,l.1,r.1],r.2)
   else .bad
  else .ok (a.1,y.2)
 | n+1,.but,s,p=>pe n (.left 7 [45] .or) s p
 | n+1,.or,s,p=>pe n (.all 5 [124] .and) s p
 | n+1,.and,s,p=>pe n (.all 6 [38] .shuffle) s p
 | n+1,.shuffle,s,p=>pe n (.left 15 [37] .ignore) s p
 | n+1,.ignore,s,p=>pe n (.left 13 [47] .chain) s p
 | n+1,.left op sg nx,s,p=>(pe n nx s p).bind fun a=>pe n (.leftL op sg nx a.1) s a.2
 | n+1,.leftL op sg nx a,s,p=>(tak sg s p).bind fun y=>if y.1 then (pe n nx s y.2).bind fun b=>pe n (.leftL op sg nx (nd op [a,b.1])) s b.2 else .ok (a,y.2)
 | n+1,.all op sg nx,s,p=>(pe n nx s p).bind fun a=>pe n (.allL op sg nx [a.1]) s a.2
 | n+1,.allL op sg nx l,s,p=>(tak sg s p).bind fun y=>if y.1 then (pe n nx s y.2).bind fun b=>pe n (.allL op sg nx (l++[b.1])) s b.2 else .ok (oneOr op l,y.2)
 | n+1,.chain,s,p=>(pe n .ahead s p).bind fun a=>pe n (.chainL [a.1]) s a.2
 | n+1,.chainL l,s,p=>(tkn s p).bind fun t=>if bgn t.1 then (pe n .ahead s t.2).bind fun b=>pe n (.chainL (l++[b.1])) s b.2 else .ok (oneOr 4 l,t.2)
 | n+1,.ahead,s,p=>(tkn s p).bind fun t=>if t.1==[126] then (pe n .ahead s (t.2+1)).bind fun x=>.ok (nd 11 [x.1],x.2)
   else if t.1==[36] then (pe n .ahead s (t.2+1)).bind fun x=>.ok (nd 12 [x.1],x.2)
   else (pe n .atom s t.2).bind fun a=>pe n (.postL a.1) s a.2
 | n+1,.postL a,s,p=>(tkn s p).bind fun t=>if t.1==[42] then pe n (.postL (nd 8 [a])) s (t.2+1) else if t.1==[43] then pe n (.postL (nd 9 [a])) s (t.2+1)
   else if t.1==[63] then pe n (.postL (nd 10 [a])) s (t.2+1) else .ok (a,t.2)
 | n+1,.atom,s,p=>(tkn s p).bind fun t=>if !bgn t.1 then .bad else
   if t.1==[46] then .ok (lf 1,t.2+1) else if t.1==[91,93] then .ok (lf 2,t.2+2) else if t.1==[33] then .ok (lf 3,t.2+1) else
   if t.1==[91] then (pe n .only s (t.2+1)).bind fun a=>(tak [93] s a.2).bind fun y=>if y.1 then .ok (a.1,y.2) else .bad
   else if t.1.headD 0==92 then .ok (.mk 0 (t.1.drop 1) true [],t.2+t.1.length)
   else if t.1.headD 0==60 then .ok (.mk 0 ((t.1.take (t.1.length-1)).drop 1) true [],t.2+t.1.length)
   else .ok (.mk 0 t.1 true [],t.2+t.1.length)
section steps
variable {P:Program} {H G:Heap} {al:AL} {K:KL} {Qp:AL→AV→Heap→Prop} {os:List IOper} {d:Nat} {x y z:Arg}
theorem st_nil {id o:Nat} (hx:evL al x=.ptr id o) (h:VV P os ((d,.ptr id o)::al) H K Qp):VV P (⟨some d,.i (.d .nilCheck),[x],none,none⟩::os) al H K Qp :=
 z2Z (v:=.ptr id o) (by simp only [evsL,hx,dsem]) h
theorem st_iface {t:TypeId} {v:AV} (hx:evL al x=v) (h:VV P os ((d,.iface t v)::al) H K Qp):VV P (⟨some d,.i (.d (.mkIface t)),[x],none,none⟩::os) al H K Qp :=
 z2Z (v:=.iface t v) (by simp only [evsL,hx,dsem]) h
theorem st_slFrom {s:Bt} {i:Nat} (hx:evL al x=.str s) (hy:evL al y=.int .i64 i) (hi:i≤s.length) (h:VV P os ((d,.str (s.drop i))::al) H K Qp) :
  VV P (⟨some d,.i (.d (.sliceStr true false)),[x,y],none,none⟩::os) al H K Qp:=by
 refine st_slStr (a:=i) (b:=s.length) hx (evs_cons hy evs_nil) ?_ ?_
 ·simp only [bounds];rw [if_pos ⟨by omega,by omega⟩];simp
 ·rw [List.take_of_length_le (by simp)];exact h
theorem z4Y {s:Bt} {i:Nat} (hx:evL al x=.str s) (hy:evL al y=.int .i64 i) (hi:i≤s.length) (h:VV P os ((d,.str (s.take i))::al) H K Qp) :
  VV P (⟨some d,.i (.d (.sliceStr false true)),[x,y],none,none⟩::os) al H K Qp:=by
 refine st_slStr (a:=0) (b:=i) hx (evs_cons hy evs_nil) ?_ ?_
 ·simp only [bounds];rw [if_pos ⟨by omega,by omega⟩];simp
 ·simpa using h
theorem st_slFT {s:Bt} {i j:Nat} (hx:evL al x=.str s) (hy:evL al y=.int .i64 i) (hz:evL al z=.int .i64 j) (hj:j≤s.length) (hi:i≤j) (h:VV P os ((d,.str ((s.take j).drop i))::al) H K Qp) :
  VV P (⟨some d,.i (.d (.sliceStr true true)),[x,y,z],none,none⟩::os) al H K Qp:=by
 refine st_slStr (a:=i) (b:=j) hx (evs_cons hy (evs_cons hz evs_nil)) ?_ ?_
 ·simp only [bounds];rw [if_pos ⟨by omega,by omega,by omega,by omega⟩];simp
 ·rw [List.drop_take] at h;exact h
end steps
theorem z0D {g n:Prop} (k:n) (h:Hide n→g:=by (intro k);(repeat (first | ((with_reducible apply z3A);focus (first | exact ev_c | (apply ev_t;(repeat (first | exact z0L | (apply z0J;focus exact rfl) | exact z0K))))) | ((with_reducible apply st_nil);exact rfl) | ((with_reducible apply st_iface);exact rfl) | ((with_reducible apply st_slFrom);exact rfl;exact rfl;(focus omega)) | ((with_reducible apply z4Y);exact rfl;exact rfl;(focus omega)) | ((with_reducible apply z1Q)) | ((with_reducible apply st_loadA3);exact rfl;(focus assumption)) | ((with_reducible apply st_mkfB);exact rfl) | ((with_reducible apply z4Z);exact rfl;exact rfl;(focus ((try simp only [List.length_append,List.length_cons,List.length_nil]);omega))) | ((with_reducible apply z3R);(focus (first | exact ev_c | (apply ev_t;(repeat (first | exact z0L | (apply z0J;focus exact rfl) | exact z0K)))));(focus assumption);exact rfl;(focus assumption)) | ((with_reducible apply z3Q);(focus (first | exact ev_c | (apply ev_t;(repeat (first | exact z0L | (apply z0J;focus exact rfl) | exact z0K)))));(focus assumption);exact rfl;(focus assumption)) | ((with_reducible apply z2L);exact rfl;exact rfl) | ((with_reducible apply z2M);exact rfl) | ((with_reducible apply z4P);exact rfl;exact rfl) | ((with_reducible apply z4W);exact rfl;exact rfl) | ((with_reducible apply z3C);exact rfl;exact rfl) | ((with_reducible apply z2B);exact rfl;exact rfl) | ((with_reducible apply z4T);exact rfl;exact rfl) | ((with_reducible apply z4Q);exact rfl;exact rfl) | ((with_reducible apply z4U);exact rfl;exact rfl) | ((with_reducible apply z4M);exact rfl;exact rfl) | ((with_reducible apply z4V);exact rfl;exact rfl) | ((with_reducible apply z4L);exact rfl;exact rfl) | ((with_reducible apply z4N);exact rfl;exact rfl) | ((with_reducible apply z4S);exact rfl;exact rfl) | ((with_reducible apply z4K);exact rfl) | ((with_reducible apply z2P);exact rfl;exact rfl) | ((with_reducible apply z2X);exact rfl;exact rfl) | ((with_reducible apply z4B);(focus (first | exact ev_c | (apply ev_t;(repeat (first | exact z0L | (apply z0J;focus exact rfl) | exact z0K)))));(focus assumption)) | ((with_reducible apply z3Z);(focus (first | exact ev_c | (apply ev_t;(repeat (first | exact z0L | (apply z0J;focus exact rfl) | exact z0K)))));(focus assumption);exact rfl;(focus assumption)) | ((with_reducible apply z2N);exact rfl;exact rfl;(focus assumption)) | ((with_reducible apply z1J);exact rfl;exact rfl;exact rfl;exact rfl;exact rfl;(focus (first | exact rfl | exact z1C));exact rfl) | ((with_reducible apply z2K);exact rfl;exact rfl;exact rfl) | ((with_reducible apply z3B);exact rfl;(focus (first | assumption | exact z0H (by assumption)));exact rfl) | ((with_reducible apply z1Z);exact rfl;exact rfl) | ((with_reducible apply z1X);exact rfl;(focus (first | exact ev_c | (apply ev_t;(repeat (first | exact z0L | (apply z0J;focus exact rfl) | exact z0K)))));exact rfl;exact rfl;exact rfl;exact rfl) | ((with_reducible apply z2W);exact rfl;exact rfl;exact rfl) | ((with_reducible apply z1T);exact rfl;(focus (first | assumption | exact z0H (by assumption)));exact rfl) | ((with_reducible apply z4C);(focus (first | exact ev_c | (apply ev_t;(repeat (first | exact z0L | (apply z0J;focus exact rfl) | exact z0K)))));exact rfl;exact rfl;exact rfl) | ((with_reducible apply z1M);exact rfl) | ((with_reducible apply z2S);exact rfl) | ((with_reducible apply z2E);exact rfl;exact rfl;(focus (first | decide | omega))) | ((with_reducible apply z4R);exact rfl;(focus omega)) | ((with_reducible apply z3T);focus (repeat (first | exact kp_nil | ((with_reducible apply kp);focus (repeat (first | exact z0L | (apply z0J;focus exact rfl) | exact z0K)))))) | ((with_reducible apply vs_end);focus (repeat (first | exact kp_nil | ((with_reducible apply kp);focus (repeat (first | exact z0L | (apply z0J;focus exact rfl) | exact z0K)))))) | ((with_reducible apply vs_q);exact rfl;exact rfl) | ((with_reducible apply vs_b);exact rfl;exact rfl;(focus exact Nat.le_refl _)) | ((with_reducible apply z5L)) | (with_reducible apply z5K) | ((with_reducible apply z4E);(focus (first | exact rfl | exact congrArg AV.bool (by assumption)));(focus (first | exact ev_c | (apply ev_t;(repeat (first | exact z0L | (apply z0J;focus exact rfl) | exact z0K)))))) | ((with_reducible apply z4F);(focus (first | exact rfl | exact congrArg AV.bool (by assumption)));(focus (first | exact ev_c | (apply ev_t;(repeat (first | exact z0L | (apply z0J;focus exact rfl) | exact z0K)))))) | ((with_reducible apply st_yes);(focus (first | exact rfl | exact congrArg AV.bool (by assumption)))) | ((with_reducible apply st_noT);(focus (first | exact rfl | exact congrArg AV.bool (by assumption)))) | ((with_reducible apply st_noF);(focus (first | exact rfl | exact congrArg AV.bool (by assumption)))) | ((with_reducible apply st_no');exact rfl) | with_reducible refine z2V ?_ | with_reducible refine z1N ?_ | with_reducible refine nx_n ?_ | with_reducible refine z3V ?_ | with_reducible refine z4J ?_ | with_reducible refine iw_ret ?_ | with_reducible refine z5N ?_ | with_reducible refine nx_x ?_ | with_reducible refine nx_r ?_ | with_reducible refine bk_n ?_ | with_reducible refine bk_r ?_ | with_reducible refine bk_x ?_ | with_reducible refine bk_y rfl ?_ | ((with_reducible apply z5Q);(focus (first | exact rfl | exact congrArg AV.bool (by assumption)))) | ((with_reducible apply iw_no);(focus (first | exact rfl | exact congrArg AV.bool (by assumption)))) | refine z2V ?_ | refine iw_drawq rfl rfl ?_ | with_reducible refine iw_drawS ?_));(exact k.h)):g:=h ⟨k⟩
theorem c278 {s p:Bt} (hs:s.length≤1000000) (hp:p.length≤1000000) (H:Heap):ACall PP 210 [.str s,.str p] H (Just H (.bool (s.take p.length==p))):=by
 refine ACall.gives (is210.c2 z0W mixed rfl ?_)
 refine z0D ?_
 cases h:decide ((s.length:Int)≥(p.length:Int))
 ·simp only [decide_eq_false_iff_not] at h
  have:(s.take p.length==p)=false:=by
   rw [beq_eq_false_iff_ne];intro e
   have:=congrArg List.length e
   rw [List.length_take] at this;omega
  rw [this]
  refine z0D ?_
  exact fr
 ·simp only [decide_eq_true_eq] at h
  refine z0D ?_
  exact fr
theorem c259 {s p:Bt} (hs:s.length≤1000000) (hp:p.length≤1000000) (H:Heap):ACall PP 192 [.str s,.str p] H (Just H (.bool (s.take p.length==p))):=by
 refine ACall.gives (is192.c2 z0W mixed rfl ?_)
 refine z0D ?_
 refine z0F rfl (c278 hs hp _) ?_
 refine z0D ?_
 exact fr
theorem c207 (s:Bt) (c:UInt8) (H:Heap):ACall PP 146 [.str s,.int .u8 c.toNat] H (Just H (.int .i64 (Lib.indexByte s c))) :=
 indexByte_ok _ _ _ (by simp [ansIndexByte])
theorem c172 (s:Bt) (c:UInt8) (H:Heap):ACall PP 123 [.str s,.int .u8 c.toNat] H (Just H (.int .i64 (Lib.indexByte s c))):=by
 refine ACall.gives (is123.c2 z0W mixed rfl ?_)
 refine z0D ?_
 refine z0F rfl (c207 s c _) ?_
 refine z0D ?_
 exact fr
theorem index_has (c:UInt8):∀ l:Bt,decide (Lib.indexByte l c≥0)=l.contains c
 | []=>rfl
 | b::l=>by
  have ih:=index_has c l
  have hg:=Lib.indexByte_ge l c
  unfold Lib.indexByte
  by_cases hb:b=c
  ·subst hb;simp
  ·have e:(b==c)=false:=by simpa using hb
   have e2:(b::l).contains c=l.contains c:=by
    simp only [List.contains_cons]
    have:(c==b)=false:=by simpa using fun h=>hb h.symm
    rw [this,Bool.false_or]
   rw [e,e2,←ih]
   simp only [Bool.false_eq_true,if_false]
   by_cases h1:Lib.indexByte l c = -1
   ·rw [h1];simp
   ·have:(Lib.indexByte l c == -1)=false:=by simpa using h1
    rw [this]
    simp only [Bool.false_eq_true,if_false,decide_eq_decide];omega
theorem c260 (c:UInt8) (H:Heap):ACall PP 193 [.int .u8 c.toNat] H (Just H (.bool (isSig c))):=by
 refine ACall.gives (is193.c1 z0W mixed rfl ?_)
 unfold isSig
 refine z0D ?_
 cases h1:decide ((c.toNat:Int)>32)
 ·refine z0D ?_
  exact fr
 ·refine z0D ?_
  cases h2:decide ((c.toNat:Int)<127)
  ·refine z0D ?_
   exact fr
  ·refine z0D ?_
   cases h3:((c.toNat:Int) != 60)
   ·refine z0D ?_
    exact fr
   ·refine z0D ?_
    exact fr
theorem c296 {t:Bt} (ht:t.length≤1000000) (H:Heap):ACall PP 227 [.str t] H (Just H (.bool (bgn t))):=by
 refine ACall.gives (is227.c1 z0W mixed rfl ?_)
 have e1:(t != []) = !(t==[]):=rfl
 have e2:(t != [61,62]) = !(t==[61,62]):=rfl
 unfold bgn
 rw [e1,e2]
 refine z0D ?_
 cases h1:(t==[])
 ·match t,h1 with
  | c::t,_ =>
   have hc:(c::t)[0]? =some c:=rfl
   refine z0D ?_
   cases h2:((c::t)==[61,62])
   ·refine z0D ?_
    have e3:decide (((c::t).length:Int)>1)=decide (1<(c::t).length):=by simp only [decide_eq_decide];omega
    rw [e3]
    cases h3:decide (1<(c::t).length)
    ·refine z0D ?_
     refine z0F rfl (c250 c _) ?_
     refine z0D ?_
     cases h4:isAl c
     ·refine z0D ?_
      refine z0F rfl (c172 _ c _) ?_
      have e5:=index_has c [126,36,46,33,91]
      generalize Lib.indexByte [126,36,46,33,91] c=ix at *
      refine z0D ?_
      rw [e5]
      simp only [List.headD_cons,h4]
      refine z0D ?_
      exact fr
     ·simp only [List.headD_cons,h4]
      refine z0D ?_
      exact fr
    ·refine z0D ?_
     exact fr
   ·refine z0D ?_
    exact fr
 ·refine z0D ?_
  exact fr
theorem skp_blank {s:Bt} {p:Nat} (h:s[p]? =some 32):skp s p=skp s (p+1):=by
 unfold skp
 have hp:=(List.getElem?_eq_some_iff.1 h).1
 have e:s.drop p=s[p]::s.drop (p+1):=List.drop_eq_getElem_cons hp
 have h2:s[p]=32:=by rw [List.getElem?_eq_getElem hp] at h;exact Option.some.inj h
 rw [e,h2,List.takeWhile_cons_of_pos (by simp)]
 simp;omega
theorem skp_stop {s:Bt} {p:Nat} (h:s[p]?≠some 32):skp s p=p:=by
 unfold skp
 rcases Nat.lt_or_ge p s.length with hp | hp
 ·have e:s.drop p=s[p]::s.drop (p+1):=List.drop_eq_getElem_cons hp
  rw [e,List.takeWhile_cons_of_neg]
  ·simp
  ·rw [List.getElem?_eq_getElem hp] at h
   simpa using fun e=>h (congrArg some e)
 ·rw [List.drop_of_length_le hp];simp
theorem skp_ge (s:Bt) (p:Nat):p≤skp s p:=by unfold skp;omega
theorem skp_le {s:Bt} {p:Nat} (h:p≤s.length):skp s p≤s.length:=by
 unfold skp
 have:((s.drop p).takeWhile (· == 32)).length≤(s.drop p).length:=(List.takeWhile_prefix _).length_le
 rw [List.length_drop] at this;omega
theorem skp_at {s:Bt} {p:Nat}:s[skp s p]?≠some 32:=by
 unfold skp
 intro h
 rw [←List.getElem?_drop] at h
 generalize s.drop p=l at h
 induction l with
 | nil=>simp at h
 | cons c l ih =>
  by_cases hc:(c==32)=true
  ·rw [List.takeWhile_cons_of_pos (p:=(· == 32)) hc] at h
   exact ih (by simpa using h)
  ·rw [List.takeWhile_cons_of_neg (p:=(· == 32)) hc] at h
   simp at h;subst h;simp at hc
theorem skp_skp (s:Bt) (p:Nat):skp s (skp s p)=skp s p:=skp_stop skp_at
abbrev RB (s:Bt) (p:Nat):Blk:=.cells [.str s,.int .i64 p]
abbrev wrongA (p:Nat):AV:=.iface 242 (.agg [.int .i64 p])
def TokP (H:Heap) (rid:Nat) (s:Bt) (q:Nat):CPost:=fun r H'=>H'=H.set rid (RB s q)∧match tok (s.drop q) with
 | some t=>r=.ret (.str t)
 | none=>r=.panic (wrongA q)
theorem angN_at {c:UInt8} {t:Bt} (n:Nat) (hn:1≤n) (hp:∀ k,1≤k→k<n→∃ x,(c::t)[k]? =some x∧isSig x=true) (hs:∀ x,(c::t)[n]? =some x→isSig x=false) (hl:n≤(c::t).length):angN (c::t)=n:=by
 unfold angN
 have:∀ (t:Bt) (m:Nat),m≤t.length→(∀ k,k<m→∃ x,t[k]? =some x∧isSig x=true)→(∀ x,t[m]? =some x→isSig x=false)→(t.takeWhile isSig).length=m:=by
  intro t
  induction t with
  | nil=>intro m h _ _;simp at h;simp [h]
  | cons y t ih =>
   intro m h h1 h2
   cases m with
   | zero =>
    rw [List.takeWhile_cons_of_neg]
    ·rfl
    ·have:=h2 y rfl;simp [this]
   | succ m =>
    obtain ⟨x,hx,hx2⟩:=h1 0 (by omega)
    simp at hx;subst hx
    rw [List.takeWhile_cons_of_pos hx2,List.length_cons,ih m (by simpa using h) (fun k hk=>by simpa using h1 (k+1) (by omega)) (fun x hx=>h2 x (by simpa using hx))]
 have h:=this t (n-1) (by simp at hl;omega) (fun k hk=>by
  obtain ⟨x,h1,h2⟩:=hp (k+1) (by omega) (by omega)
  exact ⟨x,by simpa using h1,h2⟩) (fun x hx=>hs x (by rw [show n=n-1+1 by omega];simpa using hx))
 simp only [List.drop_succ_cons,List.drop_zero];omega
theorem wi_cutB {P:Program} {H:Heap} {al:AL} {Q:PL} {next:KL} {c:IC} {id:Nat} (R:AL→Heap→Prop) (h:WI P c (LX.inBlock id (LX.then R Q)) al H) (hR:∀ al' H',R al' H'→next al' H'):WI P c (LX.inBlock id (LX.then next Q)) al H :=
 h.mono fun x al' H' q=>by
  cases x with
  | normal=>exact hR _ _ q
  | exit i =>
   simp only [LX.inBlock] at q ⊢
   split
   ·rename_i e;rw [if_pos e] at q;exact hR _ _ q
   ·rename_i e;rw [if_neg e] at q;exact q
  | goto i=>exact q
  | ret=>exact q
  | panic v=>exact q
theorem z3M (c d:UInt8):((c.toNat:Int)==(d.toNat:Int))=(c==d):=by
 rw [Bool.eq_iff_iff,beq_iff_eq,beq_iff_eq,←UInt8.toNat_inj];omega
theorem c239 {s:Bt} {p rid:Nat} {H:Heap} (hg:H[rid]? =some (RB s p)) (hp:p≤s.length) (hs:s.length≤1000000):ACall PP 175 [.ptr rid 0] H (TokP H rid s (skp s p)):=by
 refine is175.c1 z0W mixed rfl ?_
 rw [List.append_nil]
 refine z0D ?_
 refine z1B (s.length-p) (fun i al H'=>al=[(0,.ptr rid 0),(2,.str [])]∧H'=H.set rid (RB s (p+i))∧p+i≤s.length∧skp s (p+i)=skp s p) ⟨rfl,by rw [Nat.add_zero,set_self hg],by omega,rfl⟩ ?_
 rintro i _ _ hi ⟨rfl,rfl,hle,hsk⟩
 have hq:=z0C (y:=RB s (p+i)) hg
 have hset:∀ x,(H.set rid (RB s (p+i))).set rid x=H.set rid x:=fun x=>by rw [List.set_set]
 rw [←hsk]
 obtain ⟨q,hqe⟩:∃ q,q=p+i:=⟨_,rfl⟩
 rw [←hqe] at hle hsk hq hset ⊢
 have hfin:∀ {r H'},TokP (H.set rid (RB s q)) rid s (skp s q) r H'→TokP H rid s (skp s q) r H':=fun h=>⟨by rw [h.1,hset],h.2⟩
 generalize hX:H.set rid (RB s q)=X at *
 refine z0D ?_
 cases hc:decide ((q:Int)<(s.length:Int))
 ·simp only [decide_eq_false_iff_not] at hc
  have he:q=s.length:=by omega
  have hst:skp s q=q:=skp_stop (by rw [List.getElem?_eq_none (by omega)];simp)
  rw [hst]
  refine z0D ?_
  rw [show s.drop q=[] from List.drop_of_length_le (by omega)]
  refine z0D ?_
  exact z1G rfl ⟨hX.symm,by rw [List.drop_of_length_le (by omega)];rfl⟩
 simp only [decide_eq_true_eq] at hc
 obtain ⟨c,hcq⟩:=z1E (l:=s) (i:=q) (by omega)
 refine z0D ?_
 cases hb:((c.toNat:Int)==32)
 rotate_left
 ·have hc32:c=32:=by
   have:c.toNat=32:=by simp only [beq_iff_eq] at hb;omega
   exact UInt8.toNat_inj.1 this
  subst hc32
  refine z0D ?_
  refine z0X (.int .i64 (q+1:Nat)) rfl rfl hq rfl rfl rfl ?_
  refine z0D ?_
  have e:=skp_blank hcq
  refine ⟨by omega,rfl,?_,by omega,?_⟩
  ·rw [hset,show p+(i+1)=q+1 by omega];rfl
  ·rw [show p+(i+1)=q+1 by omega,←e,hsk]
 have hst:skp s q=q:=skp_stop (by
  rw [hcq];intro e;injection e with e;subst e;simp at hb)
 rw [hst] at hfin ⊢
 refine z0D ?_
 have hdr:s.drop q=c::s.drop (q+1):=by rw [List.drop_eq_getElem_cons (by omega)];rw [List.getElem?_eq_getElem (by omega)] at hcq;injection hcq with hcq;rw [hcq]
 have hlr:(s.drop q).length≤1000000:=by rw [List.length_drop];omega
 have hfin:∀ {r H'},(H'=X∧match tok (s.drop q) with | some t=>r=.ret (.str t) | none=>r=.panic (wrongA q))→TokP H rid s q r H':=fun h=>⟨by rw [h.1];exact hX.symm,h.2⟩
 rw [hdr] at hfin hlr ⊢
 generalize s.drop (q+1)=t at *
 have h0:(c::t)[0]? =some c:=rfl
 refine z0D ?_
 have k1:∀ H,ACall PP 192 [.str (c::t),.str [61,62]] H (Just H (.bool ((c::t).take 2==[61,62]))):=fun H=>c259 hlr (by decide) H
 have k2:∀ H,ACall PP 192 [.str (c::t),.str [91,93]] H (Just H (.bool ((c::t).take 2==[91,93]))):=fun H=>c259 hlr (by decide) H
 have htk:tok (c::t)=if (c::t).take 2==[61,62]||(c::t).take 2==[91,93] then some ((c::t).take 2)
  else if isAl c||sg15.contains c then some [c]
  else if c==92&&(t != [])&&isSig (t.headD 0) && !isAl (t.headD 0) then some ((c::t).take 2)
  else if c==60&&angOk (c::t) then some ((c::t).take (angN (c::t)+1)) else none:=rfl
 have len2:∀ {u:Bt},u.length=2→((c::t).take 2==u)=true→2≤(c::t).length:=by
  intro u hu h
  rw [beq_iff_eq] at h
  have:=congrArg List.length h
  rw [List.length_take] at this;omega
 refine z0F rfl (k1 _) ?_
 refine z0D ?_
 cases b1:((c::t).take 2==[61,62])
 rotate_left
 ·have l2:=len2 rfl b1
  rw [b1] at htk
  simp only [Bool.true_or,if_true] at htk
  refine z0D ?_
  exact z1G rfl (hfin ⟨rfl,by rw [htk];exact rfl⟩)
 refine z0D ?_
 refine z0F rfl (k2 _) ?_
 refine z0D ?_
 cases b2:((c::t).take 2==[91,93])
 rotate_left
 ·have l2:=len2 rfl b2
  rw [b1,b2] at htk
  simp only [Bool.false_or,if_true] at htk
  refine z0D ?_
  exact z1G rfl (hfin ⟨rfl,by rw [htk];exact rfl⟩)
 rw [b1,b2] at htk
 simp only [Bool.false_or,Bool.false_eq_true,if_false] at htk
 have l1:1≤(c::t).length:=by simp
 have t1:(c::t).take 1=[c]:=rfl
 refine z0D ?_
 refine z0F rfl (c250 c _) ?_
 refine z0D ?_
 cases b3:isAl c
 rotate_left
 ·rw [b3] at htk
  simp only [Bool.true_or,if_true] at htk
  refine z0D ?_
  exact z1G rfl (hfin ⟨rfl,by rw [htk];exact rfl⟩)
 refine z0D ?_
 have e5:=index_has c sg15
 refine z0F rfl (c172 sg15 c _) ?_
 generalize Lib.indexByte sg15 c=ix at *
 refine z0D ?_
 rw [e5]
 rw [b3,Bool.false_or] at htk
 cases b4:sg15.contains c
 rotate_left
 ·rw [b4] at htk
  simp only [if_true] at htk
  refine z0D ?_
  exact z1G rfl (hfin ⟨rfl,by rw [htk];exact rfl⟩)
 rw [b4] at htk
 simp only [Bool.false_eq_true,if_false] at htk
 have e92:((c.toNat:Int)==92)=(c==92):=z3M c 92
 have e60:((c.toNat:Int)==60)=(c==60):=z3M c 60
 refine z0D ?_
 refine z3Y [(0,.ptr rid 0),(2,.str []),(3,.str (c::t)),(4,.int .u8 c.toNat),(67,.bool (c==92&&(t != [])&&isSig (t.headD 0) && !isAl (t.headD 0)))] X ?_ ?_
 ·rw [e92]
  cases b5:(c==92)
  ·refine z0D ?_
   exact z0Z rfl rfl
  ·refine z0D ?_
   match t with
   | [] =>
    have e6:decide ((([c]:Bt).length:Int)>1)=false:=rfl
    rw [e6]
    refine z0D ?_
    exact z0Z rfl rfl
   | d::t' =>
    have e6:decide (((c::d::t').length:Int)>1)=true:=by simp;omega
    have h1:(c::d::t')[1]? =some d:=rfl
    rw [e6]
    have e7:(true&&(d::t' != [])&&isSig ((d::t').headD 0) && !isAl ((d::t').headD 0))=(isSig d && !isAl d):=rfl
    rw [e7]
    refine z0D ?_
    refine z0F rfl (c260 d _) ?_
    refine z0D ?_
    cases b6:isSig d
    ·refine z0D ?_
     exact z0Z rfl rfl
    ·refine z0D ?_
     refine z0F rfl (c250 d _) ?_
     refine z0D ?_
     exact z0Z rfl rfl
 cases b7:(c==92&&(t != [])&&isSig (t.headD 0) && !isAl (t.headD 0))
 rotate_left
 ·rw [b7] at htk
  simp only [if_true] at htk
  have l2:2≤(c::t).length:=by
   cases t with
   | nil=>simp at b7
   | cons d t=>simp
  refine z0D ?_
  exact z1G rfl (hfin ⟨rfl,by rw [htk];exact rfl⟩)
 rw [b7] at htk
 simp only [Bool.false_eq_true,if_false] at htk
 have hpan:∀ {G:Heap},tok (c::t)=none→G=X→TokP H rid s q (.panic (wrongA q)) G:=fun h hG=>hfin ⟨hG,by rw [h]⟩
 refine z0D ?_
 rw [e60]
 cases b8:(c==60)
 ·rw [b8] at htk
  simp only [Bool.false_and,Bool.false_eq_true,if_false] at htk
  refine z0D ?_
  refine z0R rfl rfl ?_
  refine z0D ?_
  refine z4G rfl ?_
  exact hpan htk rfl
 rw [b8] at htk
 simp only [Bool.true_and] at htk
 refine z0D ?_
 refine wi_cutB (fun al' H'=>∃ tl,al'=(0,.ptr rid 0)::(2,.str [])::(3,.str (c::t))::(5,.int .i64 (angN (c::t)))::tl∧H'=X) ?_ ?_
 ·refine z1B (c::t).length (fun i al H'=>al=[(0,.ptr rid 0),(2,.str []),(3,.str (c::t)),(5,.int .i64 (1+i:Nat))]∧H'=X∧1+i≤(c::t).length ∧
   ∀ k,1≤k→k<1+i→∃ x,(c::t)[k]? =some x∧isSig x=true) ⟨rfl,rfl,by omega,fun k h1 h2=>by omega⟩ ?_
  rintro j _ _ hj ⟨rfl,rfl,hjl,hjs⟩
  obtain ⟨n,hne⟩:∃ n,n=1+j:=⟨_,rfl⟩
  rw [←hne] at hjl hjs ⊢
  have after:(∀ x,(c::t)[n]? =some x→isSig x=false)→angN (c::t)=n:=fun h=>angN_at n (by omega) hjs h hjl
  refine z0D ?_
  cases b9:decide ((n:Int)<((c::t).length:Int))
  ·simp only [decide_eq_false_iff_not] at b9
   rw [after fun x hx=>by rw [List.getElem?_eq_none (by omega)] at hx;cases hx]
   refine z0D ?_
   exact ⟨_,rfl,rfl⟩
  ·simp only [decide_eq_true_eq] at b9
   obtain ⟨x,hxn⟩:=z1E (l:=c::t) (i:=n) (by omega)
   refine z0D ?_
   refine z0F rfl (c260 x _) ?_
   refine z0D ?_
   cases b10:isSig x
   ·rw [after fun y hy=>by rw [hxn] at hy;injection hy with hy;subst hy;exact b10]
    refine z0D ?_
    exact ⟨_,rfl,rfl⟩
   ·refine z0D ?_
    refine ⟨by omega,?_,rfl,by omega,fun k h1 h2=>?_⟩
    ·rw [show 1+(j+1)=n+1 by omega];rfl
    ·by_cases hk:k=n
     ·subst hk;exact ⟨x,hxn,b10⟩
     ·exact hjs k h1 (by omega)
 rintro _ H2 ⟨tl,rfl,e⟩
 rw [e]
 clear e H2
 have hax:angOk (c::t)=(decide (3≤angN (c::t))&&decide (angN (c::t)≤17)&&decide (angN (c::t)<(c::t).length)&&((c::t).getD (angN (c::t)) 0==62)):=rfl
 rw [hax] at htk
 generalize angN (c::t)=n at *
 refine z0D ?_
 refine z3Y [(0,.ptr rid 0),(2,.str []),(3,.str (c::t)),(5,.int .i64 n),(120,.bool (decide (3≤n)&&decide (n≤17)&&decide (n<(c::t).length)&&((c::t).getD n 0==62)))] X ?_ ?_
 ·have d1:decide ((n:Int)≥3)=decide (3≤n):=by simp only [decide_eq_decide];omega
  have d2:decide ((n:Int)≤17)=decide (n≤17):=by simp only [decide_eq_decide];omega
  have d3:decide ((n:Int)<((c::t).length:Int))=decide (n<(c::t).length):=by simp only [decide_eq_decide];omega
  rw [d1]
  cases a1:decide (3≤n)
  ·refine z0D ?_
   exact z0Z rfl rfl
  ·refine z0D ?_
   rw [d2]
   cases a2:decide (n≤17)
   ·refine z0D ?_
    exact z0Z rfl rfl
   ·refine z0D ?_
    rw [d3]
    cases a3:decide (n<(c::t).length)
    ·refine z0D ?_
     exact z0Z rfl rfl
    ·simp only [decide_eq_true_eq] at a3
     obtain ⟨x,hxn⟩:=z1E (l:=c::t) (i:=n) (by omega)
     have e62:((x.toNat:Int)==62)=(x==62):=z3M x 62
     have eg:(c::t).getD n 0=x:=by rw [List.getD_eq_getElem?_getD,hxn];rfl
     rw [eg,←e62]
     refine z0D ?_
     exact z0Z rfl rfl
 cases b11:(decide (3≤n)&&decide (n≤17)&&decide (n<(c::t).length)&&((c::t).getD n 0==62))
 ·rw [b11] at htk
  simp only [Bool.false_eq_true,if_false] at htk
  refine z0D ?_
  refine z0R rfl rfl ?_
  refine z0D ?_
  refine z4G rfl ?_
  exact hpan htk rfl
 ·rw [b11] at htk
  simp only [if_true] at htk
  simp only [Bool.and_eq_true,decide_eq_true_eq] at b11
  obtain ⟨⟨⟨g1,g2⟩,g3⟩,g4⟩:=b11
  refine z0D ?_
  exact z1G rfl (hfin ⟨rfl,by rw [htk];exact rfl⟩)
def TakP (H:Heap) (rid:Nat) (s:Bt) (y:PR (Bool × Nat)):CPost:=fun r H'=>match y with
 | .ok (y,q)=>r=.ret (.bool y)∧H'=H.set rid (RB s q)
 | _=>∃ q,r=.panic (wrongA q)∧H'=H.set rid (RB s q)
theorem tok_len {r u:Bt} (h:tok r=some u):u.length≤r.length:=by
 unfold tok at h
 split at h
 ·injection h with h;subst h;simp
 ·rename_i c t
  split at h
  ·injection h with h;subst h;rw [List.length_take];omega
  ·split at h
   ·injection h with h;subst h;simp
   ·split at h
    ·injection h with h;subst h;rw [List.length_take];omega
    ·split at h
     ·injection h with h;subst h;rw [List.length_take];omega
     ·cases h
theorem c258 {s t:Bt} {p rid:Nat} {H:Heap} (hg:H[rid]? =some (RB s p)) (hp:p≤s.length) (hs:s.length≤1000000):ACall PP 191 [.ptr rid 0,.str t] H (TakP H rid s (tak t s p)):=by
 have k:=c239 hg hp hs
 have hle:=skp_le hp
 have hq:=z0C (y:=RB s (skp s p)) hg
 have hset:∀ x,(H.set rid (RB s (skp s p))).set rid x=H.set rid x:=fun x=>by rw [List.set_set]
 unfold tak tkn
 generalize skp s p=q at *
 refine is191.c2 z0W mixed rfl ?_
 rw [List.append_nil]
 refine z0D ?_
 refine z1W rfl k ?_ ?_
 rotate_left
 ·rintro v H' ⟨rfl,h2⟩
  cases ht:tok (s.drop q) with
  | some u=>rw [ht] at h2;cases h2
  | none =>
   rw [ht] at h2
   injection h2 with h2
   subst h2
   exact ⟨q,rfl,rfl⟩
 rintro v H' ⟨rfl,h2⟩
 cases ht:tok (s.drop q) with
 | none=>rw [ht] at h2;cases h2
 | some u =>
  rw [ht] at h2
  injection h2 with h2
  subst h2
  have hul:=tok_len ht
  rw [List.length_drop] at hul
  simp only [PR.bind]
  generalize hX:H.set rid (RB s q)=X at *
  refine z0D ?_
  cases b:(u==t)
  ·refine z0D ?_
   exact z1G rfl ⟨rfl,hX.symm⟩
  ·have e:u=t:=by simpa using b
   subst e
   refine z0D ?_
   refine z2J (a:=q) (b:=u.length) rfl rfl (by omega) ?_
   refine z0D ?_
   refine z0X (.int .i64 (q+u.length:Nat)) rfl rfl hq rfl rfl rfl ?_
   refine z0D ?_
   exact z1G rfl ⟨rfl,hset _⟩
section steps
variable {P:Program} {H G:Heap} {al:AL} {K:KL} {Qp:AL→AV→Heap→Prop} {os:List IOper} {d:Nat} {x y z:Arg}
theorem st_mkM {n:Nat} {G':Heap} (hn:G.length=n) (hG:G++[.map [] 0]=G') (h:VV P os ((d,.map (H.length+n))::al) (H++G') K Qp):VV P (⟨some d,.i (.n (.makeMap false)),[],none,none⟩::os) al (H++G) K Qp:=by
 subst hn;subst hG
 refine st_i ?_ h
 show some (AV.map (H++G).length,put (H++G) (H++G).length (.map [] 0))=_
 rw [put_app,List.length_append]
theorem st_updI {n:Nat} {k:Int} {s:Bt} {es:Ents} {c:Nat} {G':Heap} (hx:evL al x=.map (H.length+n)) (hy:evL al y=.int .i64 k) (hz:evL al z=.str s) (hg:G[n]? =some (.map es c))
  (hf:afind ⟨false,[.int]⟩ (.int .i64 k) es 0=some none) (hG:G.set n (.map (es++[(.int .i64 k,.str s,c)]) (c+1))=G') (h:VV P os al (H++G') K Qp) :
  VV P (⟨none,.i (.n (.update ⟨false,[.int]⟩)),[x,y,z],none,none⟩::os) al (H++G) K Qp:=by
 subst hG
 refine st_i0 (v:=.top) (H':=H++G.set n (.map (es++[(.int .i64 k,.str s,c)]) (c+1))) ?_ h
 have hm:mapAt (H++G) (H.length+n)=some (es,c):=by simp only [mapAt,hp_new,hg]
 have hv:evsL al [x,y,z]=[.map (H.length+n),.int .i64 k,.str s]:=by
  show [evL al x,evL al y,evL al z]=_
  rw [hx,hy,hz]
 have hk:keyOk ⟨false,[.int]⟩ (.int .i64 k)=true:=rfl
 show nsem (.update ⟨false,[.int]⟩) (evsL al [x,y,z]) (H++G) (H++G).length=_
 rw [hv]
 simp only [nsem,hm,hk,if_true,hf,set_new]
theorem st_lookI {n:Nat} {k:Int} {es:Ents} {c:Nat} {r:Option Nat} {v:AV} (hx:evL al x=.map (H.length+n)) (hy:evL al y=.int .i64 k) (hg:G[n]? =some (.map es c))
  (hf:afind ⟨false,[.int]⟩ (.int .i64 k) es 0=some r) (hv:found (.str []) false (r.map fun i=>(es.getD i (.top,.top,0)).2.1)=v) (h:VV P os ((d,v)::al) (H++G) K Qp) :
  VV P (⟨some d,.i (.n (.lookup ⟨false,[.int]⟩ (.str []) false)),[x,y],none,none⟩::os) al (H++G) K Qp:=by
 subst hv
 refine st_i ?_ h
 have hm:mapAt (H++G) (H.length+n)=some (es,c):=by simp only [mapAt,hp_new,hg]
 have hv:evsL al [x,y]=[.map (H.length+n),.int .i64 k]:=by
  show [evL al x,evL al y]=_
  rw [hx,hy]
 have hk:keyOk ⟨false,[.int]⟩ (.int .i64 k)=true:=rfl
 show nsem (.lookup ⟨false,[.int]⟩ (.str []) false) (evsL al [x,y]) (H++G) (H++G).length=_
 rw [hv]
 simp only [nsem,hm,hk,if_true,hf]
 cases r<;>rfl
end steps
section vt
variable {P:Program} {H:Heap} {al:AL} {Q:PL} {K:KL} {ios:List IOper} {B:List (List Nat)} {Gp:AV→Prop} {s r:Sched} {c X:Blk}
theorem vt_stop {b0 base:Nat}:VT P b0 base ios B K Gp .stop al H:=⟨fun _ _=>trivial⟩
theorem vt_or {b0 base i:Nat} (h:VT P b0 base ios B K Gp (.branch i s .stop) al H) (h2:VT P b0 base ios B K Gp r al H):VT P b0 base ios B K Gp (.branch i s r) al H:=by
 refine ⟨fun S hS=>⟨(h.1 S hS).1,?_⟩⟩
 cases r with
 | stop=>trivial
 | done=>exact h2.1 S hS
 | quiet=>exact h2.1 S hS
 | branch=>exact h2.1 S hS
theorem pres1 {m m':Blk}:∀ n x v,okRd (H.length+1) x=true→rload n x (H++[c,m])=some v→rload n x (H++[c,m'])=some v:=by
 intro n x v ho hl
 cases x with
 | ptr j off =>
  have hj:j<H.length+1:=by simpa [okRd,Nat.blt_eq] using ho
  have e:∀ m:Blk,(H++[c,m])[j]? =(H++[c])[j]?:=by
   intro m
   rw [show H++[c,m]=(H++[c])++[m] by simp,List.getElem?_append_left (by simpa using hj)]
  simp only [rload,e] at hl ⊢
  exact hl
 | _=>exact hl
theorem vt_mk {i d:Nat} (ho:ios[i]? =some ⟨some d,.i (.n (.makeMap false)),[],none,some 0⟩)
  (h:VT P (H.length+1) (H.length+1) ios B K Gp s ((d,.map (H.length+1))::al) (H++[c,.map [] 0])) :
  VT P (H.length+1) (H.length+1) ios B K Gp (.branch i s .stop) al (H++[c,.resv]):=by
 refine ⟨fun S hS=>?_⟩
 have hrr:rOf (H.length+1) ⟨some d,.i (.n (.makeMap false)),[],none,some 0⟩ (H++[c,.resv])=H.length+1:=rfl
 have hget:(H++[c,Blk.resv])[H.length+1]? =some .resv:=by rw [hp_new];rfl
 have hput:put (H++[c,Blk.resv]) (H.length+1) (.map [] 0)=H++[c,.map [] 0]:=by
  unfold put
  rw [if_pos (by simp),set_new];rfl
 have hS':∀ r∈S,okRd (H.length+1) r.x=true∧rload r.n r.x (H++[c,.map [] 0])=some r.v:=fun r hr=>⟨(hS r hr).1,pres1 _ _ _ (hS r hr).1 (hS r hr).2⟩
 simp only [vsL,ho,hrr]
 refine ⟨⟨?_,Nat.ble_eq_true_of_le (Nat.le_refl _),?_⟩,trivial⟩
 ·simp [freeB]
 ·have hi:isem (.n (.makeMap false)) (evsL al []) (H++[c,Blk.resv]) (H.length+1)=some (.map (H.length+1),H++[c,.map [] 0]):=by
   show some (AV.map (H.length+1),put (H++[c,Blk.resv]) (H.length+1) (.map [] 0))=_
   rw [hput]
  simp only [vopL,vexecL,hi]
  refine ⟨?_,h.1 S hS'⟩
  unfold obligL
  rw [ho]
  simp only
  split
  ·trivial
  ·exact fun r hr _=>(hS' r hr).2
theorem base1 {m:Blk}:H.length+1≤(H++[c,m]).length:=by simp
theorem iw_drawR {ks:List Nat} (h:VT P (H.length+1) (H.length+1) ios B (fun a h=>Q .normal (keepL a ks) h) (fun _=>False) s al (H++[c,.resv])):WI P (.draw 1 ios B s (some ks)) Q al (H++[c]):=by
 refine ⟨⟨fun _=>False,fun _ _ f=>f.elim,?_⟩⟩
 have e1:reserve (H++[c]) 1=H++[c,.resv]:=by simp [reserve]
 have e2:(H++[c]).length=H.length+1:=by simp
 rw [e1,e2]
 exact h.1 [] (by simp)
end vt
end Go.Ab
