/- Part 33 of the proof. -/
import Derived.Test.YteaellpidegbiaaGreatDoorA22
import Derived.Test.YteaellpidegbiaaGreatDoorA28
import Derived.Test.YteaellpidegbiaaGreatDoorA31
import Derived.Test.YteaellpidegbiaaGreatDoorA32
set_option linter.unusedVariables false
set_option linter.unusedSimpArgs false
namespace Go.Ab
open Go
set_option maxRecDepth 100000
set_option maxHeartbeats 8000000
section steps
variable {P:Program} {H G:Heap} {al:AL} {K:KL} {Qp:AL→AV→Heap→Prop} {os:List IOper} {d:Nat} {x y:Arg}
theorem st_appG {sz bytes id off k m:Nat} {cs ys:List AV} (hx:evL al x=.sl id off k sz) (hg:H[id]? =some (.cells cs)) (hc:off+k*sz≤cs.length)
  (hy:srcOf sz H (evL al y)=some (m,ys)) (hs:ys.all AV.scalar=true) (hb:(k+m)*bytes≤140737488355328)
  (h:VV P os ((d,.sl H.length 0 (k+m) sz)::al) (H.set id .dead++[.cells ((cs.drop off).take (k*sz)++ys)]) K Qp) :
  VV P (⟨some d,.i (.m (.append sz bytes)),[x,y],none,none⟩::os) al H K Qp:=by
 refine st_i ?_ h
 have h0:srcOf sz H (.sl id off k sz)=some (k,(cs.drop off).take (k*sz)):=by
  simp only [srcOf,if_true,hg];rw [if_pos hc]
 simp only [isem,msem,evsL,hx,eappend,hy,h0,hs,Bool.true_and]
 rw [if_pos (by simpa using hb)]
 unfold put;rw [if_neg (by simp)]
theorem st_app0G {sz bytes m:Nat} {ys:List AV} (hx:evL al x=.nilslice) (hy:srcOf sz H (evL al y)=some (m,ys)) (hm:0<m) (hs:ys.all AV.scalar=true) (hb:m*bytes≤140737488355328)
  (h:VV P os ((d,.sl H.length 0 m sz)::al) (H++[.cells ys]) K Qp):VV P (⟨some d,.i (.m (.append sz bytes)),[x,y],none,none⟩::os) al H K Qp:=by
 refine st_i ?_ h
 have h0:srcOf sz H .nilslice=some (0,[]):=rfl
 simp only [isem,msem,evsL,hx,eappend,hy,h0,hs,Bool.true_and,Nat.zero_add]
 rw [if_pos (by simpa using hb),if_neg (by omega)]
 unfold put;rw [if_neg (by omega)]
theorem z1A {len sz:Nat} {zs:List AV} {ps:List (Nat × Nat)} {as_:List Arg} {out:List AV} (hf:fillA (if len*sz=0 then [] else copies len zs) ps (evsL al as_)=some out)
  (h:VV P os ((d,.sl H.length 0 len sz)::al) (H++[.cells out]) K Qp):VV P (⟨some d,.i (.m (.buildSlice len sz zs ps)),as_,none,none⟩::os) al H K Qp:=by
 refine st_i ?_ h
 simp only [isem,msem,hf]
 unfold put;rw [if_neg (by omega)]
theorem srcOf_last {sz m:Nat} {cs:List AV} (h:cs.length=m*sz):srcOf sz (H++[.cells cs]) (.sl H.length 0 m sz)=some (m,cs):=by
 simp only [srcOf,if_true]
 rw [List.getElem?_append_right (Nat.le_refl _),Nat.sub_self]
 simp only [List.getElem?_cons_zero]
 rw [if_pos (by omega),List.drop_zero,←h,List.take_length]
end steps
theorem Ext.set {H H':Heap} {id:Nat} {b:Blk} (h:Ext H H') (hid:H.length≤id):Ext H (H'.set id b):=by
 obtain ⟨G,rfl⟩:=h;exact ⟨G.set (id-H.length) b,by rw [List.set_append_right _ _ hid]⟩
theorem z0A {H:Heap} {a b:Nat} {x y:Blk} (h:H[a]? =some x) (hne:a≠b):(H.set b y)[a]? =some x:=by
 rw [List.getElem?_set,if_neg (fun e=>hne e.symm)];exact h
theorem z0C {H:Heap} {a:Nat} {x y:Blk} (h:H[a]? =some x):(H.set a y)[a]? =some y:=by
 rw [List.getElem?_set,if_pos rfl,if_pos (List.getElem?_eq_some_iff.1 h).1]
def OwnS (H H':Heap) (v:AV) (l:List (List UInt8)):Prop :=
 Ext H H'∧((l=[]∧v=.nilslice)∨∃ id,v=.sl id 0 l.length 1∧H'[id]? =some (.cells (l.map .str))∧H.length≤id∧l≠[])
theorem OwnS.nil {H H':Heap} (h:Ext H H'):OwnS H H' .nilslice []:=⟨h,.inl ⟨rfl,rfl⟩⟩
theorem OwnS.app {H H':Heap} {v:AV} {l:List (List UInt8)} (h:OwnS H H' v l) (G:Heap):OwnS H (H'++G) v l:=by
 obtain ⟨h1,h2⟩:=h
 refine ⟨h1.app G,?_⟩
 rcases h2 with h2 | ⟨id,a,b,c,d⟩
 ·exact .inl h2
 ·exact .inr ⟨id,a,z0F b,c,d⟩
theorem Ext.get {H H':Heap} (h:Ext H H') {j:Nat} {b:Blk} (hg:H[j]? =some b):H'[j]? =some b:=by obtain ⟨G,rfl⟩:=h;exact z0F hg
theorem Ext.len {H H':Heap} (h:Ext H H'):H.length≤H'.length:=by obtain ⟨G,rfl⟩:=h;simp
theorem Ext.base {H G H':Heap} (h:Ext (H++G) H'):Ext H H':=by obtain ⟨G',rfl⟩:=h;exact ⟨G++G',by rw [List.append_assoc]⟩
theorem OwnS.ends {H G H':Heap} {v:AV} {l:List (List UInt8)} (h:OwnS (H++G) H' v l):Gives H (encW ⟨true,l⟩) (.ret v) H':=by
 obtain ⟨h1,h2⟩:=h
 rcases h2 with ⟨rfl,rfl⟩ | ⟨id,rfl,h3,h4,h5⟩
 ·exact z0N h1.base (plain_W ⟨true,[]⟩)
 ·have he:encW ⟨true,l⟩=.list 1 (l.map .str):=by
   unfold encW
   rw [if_neg]
   intro h
   simp only [Bool.and_eq_true,List.isEmpty_iff] at h
   exact h5 h.2
  obtain ⟨G',hG⟩:=h1.base.set (id:=id) (b:=.dead) (by rw [List.length_append] at h4;omega)
  exact ⟨_,G',rfl,.step id _ h3 (sealStrs id l) (by rw [hG,he];exact .done _ _),plain_W _⟩
section steps
variable {P:Program} {H G:Heap} {al:AL} {K:KL} {Qp:AL→AV→Heap→Prop} {os:List IOper} {d:Nat} {x y:Arg}
theorem z3W {H0:Heap} {v:AV} {l ys:List (List UInt8)} (hx:evL al x=v) (ho:OwnS H0 H v l) (hy:srcOf 1 H (evL al y)=some (ys.length,ys.map .str)) (hb:l.length+ys.length≤1000000000)
  (h:∀ v' H',OwnS H0 H' v' (l++ys)→VV P os ((d,v')::al) H' K Qp):VV P (⟨some d,.i (.m (.append 1 16)),[x,y],none,none⟩::os) al H K Qp:=by
 obtain ⟨h1,h2⟩:=ho
 rcases h2 with ⟨rfl,rfl⟩ | ⟨id,rfl,h3,h4,h5⟩
 ·cases ys with
  | nil=>exact st_app00 (ys:=[]) hx hy rfl (h _ _ ⟨h1,.inl ⟨rfl,rfl⟩⟩)
  | cons s ys =>
   refine st_app0G hx hy (by simp) (all_strs _) (by simp at hb ⊢;omega) (h _ _ ⟨h1.app _,.inr ⟨_,rfl,?_,h1.len,by simp⟩⟩)
   rw [List.getElem?_append_right (Nat.le_refl _),Nat.sub_self];rfl
 ·refine st_appG hx h3 (by simp) hy (all_strs _) (by omega) (h _ _ ⟨(h1.set h4).app _,.inr ⟨_,by rw [List.length_append],?_,h1.len,by simp [h5]⟩⟩)
  rw [List.getElem?_append_right (by simp)]
  simp
  exact List.take_of_length_le (by simp)
theorem srcOf_strs (l:List (List UInt8)):srcOf 1 H (.list 1 (l.map .str))=some (l.length,l.map .str):=by
 simp only [srcOf,if_true,List.length_map,flat_strs]
end steps
section vt
variable {P:Program} {H:Heap} {al:AL} {Q:PL} {K:KL} {b0 base:Nat} {ios:List IOper} {B:List (List Nat)} {Gp:AV→Prop} {s:Sched}
end vt
section steps
variable {P:Program} {H:Heap} {al:AL} {K:KL} {Qp:AL→AV→Heap→Prop} {os:List IOper} {d:Nat} {x y:Arg}
end steps
theorem walkN {g n:Prop} (k:n) (h:Hide n→g:=by (intro k);(repeat (first | ((with_reducible apply z1W);focus (first | exact ev_c | (apply ev_t;(repeat (first | exact z1K | (apply z0Y;focus exact rfl) | exact lk_nil))))) | ((with_reducible apply st_idxA);(focus (first | exact ev_c | (apply ev_t;(repeat (first | exact z1K | (apply z0Y;focus exact rfl) | exact lk_nil)))));(focus assumption);exact rfl;(focus assumption)) | ((with_reducible apply st_idxS);(focus (first | exact ev_c | (apply ev_t;(repeat (first | exact z1K | (apply z0Y;focus exact rfl) | exact lk_nil)))));(focus assumption);exact rfl;(focus assumption)) | ((with_reducible apply z3T);exact rfl;exact rfl) | ((with_reducible apply z3F);exact rfl) | ((with_reducible apply st_lss);exact rfl;exact rfl) | ((with_reducible apply st_eqi);exact rfl;exact rfl) | ((with_reducible apply st_field);exact rfl;exact rfl) | ((with_reducible apply z3G);exact rfl;exact rfl) | ((with_reducible apply st_gtr);exact rfl;exact rfl) | ((with_reducible apply st_leq);exact rfl;exact rfl) | ((with_reducible apply st_geq);exact rfl;exact rfl) | ((with_reducible apply st_nei);exact rfl;exact rfl) | ((with_reducible apply st_eqs);exact rfl;exact rfl) | ((with_reducible apply st_nes);exact rfl;exact rfl) | ((with_reducible apply st_lts);exact rfl;exact rfl) | ((with_reducible apply st_gts);exact rfl;exact rfl) | ((with_reducible apply st_not);exact rfl) | ((with_reducible apply z3V);exact rfl;exact rfl) | ((with_reducible apply z4F);exact rfl;exact rfl) | ((with_reducible apply st_len);(focus (first | exact ev_c | (apply ev_t;(repeat (first | exact z1K | (apply z0Y;focus exact rfl) | exact lk_nil)))));(focus assumption)) | ((with_reducible apply st_idx);(focus (first | exact ev_c | (apply ev_t;(repeat (first | exact z1K | (apply z0Y;focus exact rfl) | exact lk_nil)))));(focus assumption);exact rfl;(focus assumption)) | ((with_reducible apply z3U);exact rfl;exact rfl;(focus assumption)) | ((with_reducible apply z2T);exact rfl;exact rfl;exact rfl;exact rfl;exact rfl;(focus (first | exact rfl | exact z1C));exact rfl) | ((with_reducible apply z3S);exact rfl;exact rfl;exact rfl) | ((with_reducible apply z4V);exact rfl;(focus (first | assumption | exact z0F (by assumption)));exact rfl) | ((with_reducible apply z2Y);exact rfl;exact rfl) | ((with_reducible apply z2Z);exact rfl;(focus (first | exact ev_c | (apply ev_t;(repeat (first | exact z1K | (apply z0Y;focus exact rfl) | exact lk_nil)))));exact rfl;exact rfl;exact rfl;exact rfl) | ((with_reducible apply z4E);exact rfl;exact rfl;exact rfl) | ((with_reducible apply z1N);exact rfl;(focus (first | assumption | exact z0F (by assumption)));exact rfl) | ((with_reducible apply st_box);(focus (first | exact ev_c | (apply ev_t;(repeat (first | exact z1K | (apply z0Y;focus exact rfl) | exact lk_nil)))));exact rfl;exact rfl;exact rfl) | ((with_reducible apply z1B);exact rfl) | ((with_reducible apply z3J);exact rfl) | ((with_reducible apply z2X);exact rfl;exact rfl;(focus (first | decide | omega))) | ((with_reducible apply z4W);exact rfl;(focus omega)) | ((with_reducible apply z3N);focus (repeat (first | exact kp_nil | ((with_reducible apply kp);focus (repeat (first | exact z1K | (apply z0Y;focus exact rfl) | exact lk_nil)))))) | ((with_reducible apply vs_end);focus (repeat (first | exact kp_nil | ((with_reducible apply kp);focus (repeat (first | exact z1K | (apply z0Y;focus exact rfl) | exact lk_nil)))))) | ((with_reducible apply vs_q);exact rfl;exact rfl) | ((with_reducible apply vs_b);exact rfl;exact rfl;(focus exact Nat.le_refl _)) | ((with_reducible apply st_finB)) | (with_reducible apply st_finQ) | ((with_reducible apply z4R);(focus (first | exact rfl | exact congrArg AV.bool (by assumption)));(focus (first | exact ev_c | (apply ev_t;(repeat (first | exact z1K | (apply z0Y;focus exact rfl) | exact lk_nil)))))) | ((with_reducible apply z4S);(focus (first | exact rfl | exact congrArg AV.bool (by assumption)));(focus (first | exact ev_c | (apply ev_t;(repeat (first | exact z1K | (apply z0Y;focus exact rfl) | exact lk_nil)))))) | ((with_reducible apply st_yes);(focus (first | exact rfl | exact congrArg AV.bool (by assumption)))) | ((with_reducible apply st_noT);(focus (first | exact rfl | exact congrArg AV.bool (by assumption)))) | ((with_reducible apply st_noF);(focus (first | exact rfl | exact congrArg AV.bool (by assumption)))) | ((with_reducible apply st_no');exact rfl) | with_reducible refine z2W ?_ | with_reducible refine z1Z ?_ | with_reducible refine nx_n ?_ | with_reducible refine z4A ?_ | with_reducible refine z5D ?_ | with_reducible refine iw_ret ?_ | with_reducible refine iw_exit ?_ | with_reducible refine nx_x ?_ | with_reducible refine nx_r ?_ | with_reducible refine bk_n ?_ | with_reducible refine bk_r ?_ | with_reducible refine bk_x ?_ | with_reducible refine bk_y rfl ?_ | ((with_reducible apply iw_yes);(focus (first | exact rfl | exact congrArg AV.bool (by assumption)))) | ((with_reducible apply iw_no);(focus (first | exact rfl | exact congrArg AV.bool (by assumption)))) | refine z2W ?_));(exact k.h)):g:=h ⟨k⟩
theorem kids_eq (op:Int) (n:Nat) (h:n≤39) (s:List UInt8):(outOp op||badNode2 (kids2 op) op s n)=(badNode (kidsS op) op s n||badSym op s):=by
 unfold badNode2 badNode badSym
 rcases ops_all op with h1 | h1
 ·rcases h1 with rfl | rfl | rfl | rfl | rfl | rfl | rfl | rfl | rfl | rfl | rfl | rfl | rfl | rfl | rfl | rfl
  all_goals simp [outOp,kidsS,kids2,show ¬ (40:Int)<(n:Int) by omega]
 ·have e1:outOp op=true:=by
   unfold outOp
   rcases h1 with h1 | h1
   ·simp [h1]
   ·simp;right;omega
  have e:kidsS op=(0,0,false):=by
   unfold kidsS
   rw [if_neg (by omega),if_neg (by omega),if_neg (by omega),if_neg (by omega),if_neg (by omega)]
  rw [e1,e]
  simp
mutual
theorem right_eq:∀ e:Ex,e.size≤40→e.right2=e.right
 | .mk op s nl l,h=>by
  simp only [Ex.size] at h
  have hl:=length_sizes l
  have h1:=rights_eq l (by omega)
  have h2:=kids_eq op l.length (by omega) s
  simp only [Ex.right2,Ex.right,h1]
  rw [←Bool.not_or,←Bool.not_or,h2]
theorem rights_eq:∀ l:List Ex,sizes l≤40→rights2 l=rights l
 | [],_=>rfl
 | x::xs,h=>by
  simp only [sizes] at h
  simp only [rights2,rights,right_eq x (by omega),rights_eq xs (by omega)]
end
theorem vexpr_eq (e:Ex):vexpr2 e=vexpr e:=by
 unfold vexpr2 vexpr
 by_cases h:(decide ((e.size:Int)>40)||decide ((e.deep:Int)>12))=true
 ·rw [if_pos h,if_pos h]
 ·rw [if_neg h,if_neg h]
  simp only [Bool.or_eq_true,decide_eq_true_eq,not_or] at h
  rw [right_eq e (by omega)]
theorem vrule_eq (r:Ru):vrule2 r=vrule r:=by
 have hv:vexpr2=vexpr:=funext vexpr_eq
 unfold vrule2 vrule
 rw [hv]
 have hf:formR r=(formR2 r||twice r.pairs):=by
  unfold formR formR2
  congr 1
  rcases r with ⟨kind,pn,pairs,ln,places,below⟩
  simp only
  by_cases h0:kind<0
  ·simp [h0]
  ·by_cases h3:kind>3
   ·simp [h3]
   ·have:(decide (kind<2))=((kind != 2)&&(kind != 3)):=by
     have:kind=0∨kind=1∨kind=2∨kind=3:=by omega
     rcases this with rfl | rfl | rfl | rfl<;>rfl
    rw [this,Bool.and_assoc]
 rw [hf]
 cases formR2 r<;>cases twice r.pairs<;>simp
abbrev Bt:=List UInt8
def arrowS (k:Int):Bt:=if k=1 then [40,45,62,41] else if k=2 then [64,45,62] else if k=3 then [64,62] else [45,62]
theorem c31 (k:Int) (H:Heap):ACall PP 31 [.int .i64 k] H (Just H (.str (arrowS k))):=by
 refine ACall.gives (is31.c1 z0V mixed rfl ?_)
 by_cases h1:k=1
 ·subst h1;refine z0J ?_;exact fr
 by_cases h2:k=2
 ·subst h2;refine z0J ?_;exact fr
 by_cases h3:k=3
 ·subst h3;refine z0J ?_;exact fr
 rw [show arrowS k=[45,62] by simp [arrowS,h1,h2,h3]]
 have e1:(k==1)=false:=by simpa using h1
 have e2:(k==2)=false:=by simpa using h2
 have e3:(k==3)=false:=by simpa using h3
 refine z0J ?_
 exact fr
def isAl (c:UInt8):Bool:=(decide ((c.toNat:Int)≥97)&&decide ((c.toNat:Int)≤122))||(decide ((c.toNat:Int)≥65)&&decide ((c.toNat:Int)≤90))||(decide ((c.toNat:Int)≥48)&&decide ((c.toNat:Int)≤57))
theorem c250 (c:UInt8) (H:Heap):ACall PP 250 [.int .u8 c.toNat] H (Just H (.bool (isAl c))):=by
 refine ACall.gives (is250.c1 z0V mixed rfl ?_)
 unfold isAl
 refine z0J ?_
 cases h1:decide ((c.toNat:Int)≥97)
 ·refine z0J ?_
  cases h3:decide ((c.toNat:Int)≥65)
  ·refine z0J ?_
   cases h5:decide ((c.toNat:Int)≥48)
   ·refine z0J ?_;exact fr
   ·refine z0J ?_
    cases h6:decide ((c.toNat:Int)≤57)
    ·refine z0J ?_;exact fr
    ·refine z0J ?_;exact fr
  ·refine z0J ?_
   cases h4:decide ((c.toNat:Int)≤90)
   ·refine z0J ?_
    cases h5:decide ((c.toNat:Int)≥48)
    ·refine z0J ?_;exact fr
    ·refine z0J ?_
     cases h6:decide ((c.toNat:Int)≤57)
     ·refine z0J ?_;exact fr
     ·refine z0J ?_;exact fr
   ·refine z0J ?_;exact fr
 ·refine z0J ?_
  cases h2:decide ((c.toNat:Int)≤122)
  ·refine z0J ?_
   cases h3:decide ((c.toNat:Int)≥65)
   ·refine z0J ?_
    cases h5:decide ((c.toNat:Int)≥48)
    ·refine z0J ?_;exact fr
    ·refine z0J ?_
     cases h6:decide ((c.toNat:Int)≤57)
     ·refine z0J ?_;exact fr
     ·refine z0J ?_;exact fr
   ·refine z0J ?_
    cases h4:decide ((c.toNat:Int)≤90)
    ·refine z0J ?_
     cases h5:decide ((c.toNat:Int)≥48)
     ·refine z0J ?_;exact fr
     ·refine z0J ?_
      cases h6:decide ((c.toNat:Int)≤57)
      ·refine z0J ?_;exact fr
      ·refine z0J ?_;exact fr
    ·refine z0J ?_;exact fr
  ·refine z0J ?_;exact fr
theorem c220 (c:UInt8) (H:Heap):ACall PP 220 [.int .u8 c.toNat] H (Just H (.bool (isAl c))):=by
 refine ACall.gives (is220.c1 z0V mixed rfl ?_)
 unfold isAl
 refine z0J ?_
 cases h1:decide ((c.toNat:Int)≥97)
 ·refine z0J ?_
  cases h3:decide ((c.toNat:Int)≥65)
  ·refine z0J ?_
   cases h5:decide ((c.toNat:Int)≥48)
   ·refine z0J ?_;exact fr
   ·refine z0J ?_
    cases h6:decide ((c.toNat:Int)≤57)
    ·refine z0J ?_;exact fr
    ·refine z0J ?_;exact fr
  ·refine z0J ?_
   cases h4:decide ((c.toNat:Int)≤90)
   ·refine z0J ?_
    cases h5:decide ((c.toNat:Int)≥48)
    ·refine z0J ?_;exact fr
    ·refine z0J ?_
     cases h6:decide ((c.toNat:Int)≤57)
     ·refine z0J ?_;exact fr
     ·refine z0J ?_;exact fr
   ·refine z0J ?_;exact fr
 ·refine z0J ?_
  cases h2:decide ((c.toNat:Int)≤122)
  ·refine z0J ?_
   cases h3:decide ((c.toNat:Int)≥65)
   ·refine z0J ?_
    cases h5:decide ((c.toNat:Int)≥48)
    ·refine z0J ?_;exact fr
    ·refine z0J ?_
     cases h6:decide ((c.toNat:Int)≤57)
     ·refine z0J ?_;exact fr
     ·refine z0J ?_;exact fr
   ·refine z0J ?_
    cases h4:decide ((c.toNat:Int)≤90)
    ·refine z0J ?_
     cases h5:decide ((c.toNat:Int)≥48)
     ·refine z0J ?_;exact fr
     ·refine z0J ?_
      cases h6:decide ((c.toNat:Int)≤57)
      ·refine z0J ?_;exact fr
      ·refine z0J ?_;exact fr
    ·refine z0J ?_;exact fr
  ·refine z0J ?_;exact fr
theorem Is.c0 {P:Program} {H:Heap} {f:FuncId} {anns:List Ann} {F:IFunc} {R:CPost} (hnn:NoNum P) (hm:P.follows .mixedOrders=true) (hF:Is P f anns F) (hn:Nat.ble 0 F.n=true) (h:WI P F.body (fpostL F.rs R) [] (H++[])):ACall P f [] H R:=by
 rw [List.append_nil] at h;exact hF.call hnn hm hn h.1
theorem res_cell {al:AL} {t n off:Nat} {k:Option Nat} {H G:Heap} {cs:List AV} {v:AV} (h1:look al t=.ptr (H.length+n) off) (hg:G[n]? =some (.cells cs)) (hd:dpart k cs off=some v) :
  resultL [.cell t k] al (H++G)=some v:=by
 simp only [resultL,resVL,rload,h1,hp_new,hg,hd]
theorem c36 (H:Heap):ACall PP 36 [] H (Just H (.agg [.str [45,62],.str [40,45,62,41],.str [64,45,62],.str [64,62]])):=by
 refine ACall.gives (Is.c0 z0V mixed is36 rfl ?_)
 refine z0J ?_
 refine z0L rfl rfl ?_
 refine z0J ?_
 exact z1G (res_cell (n:=0) rfl rfl rfl) (z2P ⟨2,rfl⟩)
theorem arr_idx {k:Int} (h0:0≤k) (h3:k≤3):dsem (.idxArr 4 1 false) [.agg [.str [45,62],.str [40,45,62,41],.str [64,45,62],.str [64,62]],.int .i64 k]=some (.str (arrowS k)):=by
 have:k=0∨k=1∨k=2∨k=3:=by omega
 rcases this with rfl | rfl | rfl | rfl<;>rfl
def isSig (c:UInt8):Bool:=decide ((c.toNat:Int)>32)&&decide ((c.toNat:Int)<127)&&((c.toNat:Int) != 60)&&((c.toNat:Int) != 62)
def sg15:Bt:=[95,45,124,38,37,47,126,36,42,43,63,46,33,91,93]
def angN (r:Bt):Nat:=1+((r.drop 1).takeWhile isSig).length
def angOk (r:Bt):Bool:=decide (3≤angN r)&&decide (angN r≤17)&&decide (angN r<r.length)&&(r.getD (angN r) 0==62)
def tok (r:Bt):Option Bt :=
 match r with
 | []=>some []
 | c::t =>
  if r.take 2==[61,62]||r.take 2==[91,93] then some (r.take 2)
  else if isAl c||sg15.contains c then some [c]
  else if c==92&&(t != [])&&isSig (t.headD 0) && !isAl (t.headD 0) then some (r.take 2)
  else if c==60&&angOk r then some (r.take (angN r+1)) else none
inductive PR (α:Type) where
 | oof
 | bad
 | ok (a:α)
def PR.bind {α β:Type} (x:PR α) (f:α→PR β):PR β :=
 match x with
 | .oof=>.oof
 | .bad=>.bad
 | .ok a=>f a
def skp (s:Bt) (p:Nat):Nat:=p+((s.drop p).takeWhile (· == 32)).length
def tkn (s:Bt) (p:Nat):PR (Bt × Nat):=match tok (s.drop (skp s p)) with
 | none=>.bad
 | some t=>.ok (t,skp s p)
def tak (t s:Bt) (p:Nat):PR (Bool × Nat):=(tkn s p).bind fun x=>if x.1==t then .ok (true,x.2+t.length) else .ok (false,x.2)
def bgn (t:Bt):Bool:=(t != [])&&(t != [61,62])&&(decide (1<t.length)||isAl (t.headD 0)||([126,36,46,33,91]:Bt).contains (t.headD 0))
inductive Md where
 | only | but | or | and | shuffle | ignore | chain | ahead | atom
 | left (op:Int) (sg:Bt) (nx:Md)
 | all (op:Int) (sg:Bt) (nx:Md)
 | leftL (op:Int) (sg:Bt) (nx:Md) (a:Ex)
 | allL (op:Int) (sg:Bt) (nx:Md) (l:List Ex)
 | chainL (l:List Ex)
 | postL (a:Ex)
def nd (op:Int) (l:List Ex):Ex:=.mk op [] false l
def lf (op:Int):Ex:=.mk op [] true []
def oneOr (op:Int) (l:List Ex):Ex:=match l with
 | [x]=>x
 | _=>nd op l
def pe:Nat→Md→Bt→Nat→PR (Ex × Nat)
 | 0,_,_,_=>.oof
 | n+1,.only,s,p=>(pe n .but s p).bind fun a=>(tak [61,62] s a.2).bind fun y=>if y.1 then
   (tkn s y.2).bind fun t=>(if t.1==[95] then .ok (lf 2,t.2) else pe n .but s t.2).bind fun l=>(tak [95] s l.2).bind fun z=>if z.1 then
    (tkn s z.2).bind fun u=>(if u.1==[]||u.1==[93] then .ok (lf 2,u.2) else pe n .but s u.2).bind fun r=>.ok (nd 14 [a.1,l.1,r.1],r.2)
   else .bad
  else .ok (a.1,y.2)
 | n+1,.but,s,p=>pe n (.left 7 [45] .or) s p
 | n+1,.or,s,p=>pe n (.all 5 [124] .and) s p
 | n+1,.and,s,p=>pe n (.all 6 [38] .shuffle) s p
 | n+1,.shuffle,s,p=>pe n (.left 15 [37] .ignore) s p
 | n+1,.ignore,s,p=>pe n (.left 13 [47] .chain) s p
 | n+1,.left op sg nx,s,p=>(pe n nx s p).bind fun a=>pe n (.leftL op sg nx a.1) s a.2
 | n+1,.leftL op sg nx a,s,p=>(tak sg s p).bind fun y=>if y.1 then (pe n nx s y.2).bind fun b=>pe n (.leftL op sg nx (nd op [a,b.1])) s b.2 else .ok (a,y.2)
 | n+1,.all op sg nx,s,p=>(pe n nx s p).bind fun a=>pe n (.allL op sg nx [a.1]) s a.2
 | n+1,.allL op sg nx l,s,p=>(tak sg s p).bind fun y=>if y.1 then (pe n nx s y.2).bind fun b=>pe n (.allL op sg nx (l++[b.1])) s b.2 else .ok (oneOr op l,y.2)
 | n+1,.chain,s,p=>(pe n .ahead s p).bind fun a=>pe n (.chainL [a.1]) s a.2
 | n+1,.chainL l,s,p=>(tkn s p).bind fun t=>if bgn t.1 then (pe n .ahead s t.2).bind fun b=>pe n (.chainL (l++[b.1])) s b.2 else .ok (oneOr 4 l,t.2)
 | n+1,.ahead,s,p=>(tkn s p).bind fun t=>if t.1==[126] then (pe n .ahead s (t.2+1)).bind fun x=>.ok (nd 11 [x.1],x.2)
   else if t.1==[36] then (pe n .ahead s (t.2+1)).bind fun x=>.ok (nd 12 [x.1],x.2)
   else (pe n .atom s t.2).bind fun a=>pe n (.postL a.1) s a.2
 | n+1,.postL a,s,p=>(tkn s p).bind fun t=>if t.1==[42] then pe n (.postL (nd 8 [a])) s (t.2+1) else if t.1==[43] then pe n (.postL (nd 9 [a])) s (t.2+1)
   else if t.1==[63] then pe n (.postL (nd 10 [a])) s (t.2+1) else .ok (a,t.2)
 | n+1,.atom,s,p=>(tkn s p).bind fun t=>if !bgn t.1 then .bad else
   if t.1==[46] then .ok (lf 1,t.2+1) else if t.1==[91,93] then .ok (lf 2,t.2+2) else if t.1==[33] then .ok (lf 3,t.2+1) else
   if t.1==[91] then (pe n .only s (t.2+1)).bind fun a=>(tak [93] s a.2).bind fun y=>if y.1 then .ok (a.1,y.2) else .bad
   else if t.1.headD 0==92 then .ok (.mk 0 (t.1.drop 1) true [],t.2+t.1.length)
   else if t.1.headD 0==60 then .ok (.mk 0 ((t.1.take (t.1.length-1)).drop 1) true [],t.2+t.1.length)
   else .ok (.mk 0 t.1 true [],t.2+t.1.length)
section steps
variable {P:Program} {H G:Heap} {al:AL} {K:KL} {Qp:AL→AV→Heap→Prop} {os:List IOper} {d:Nat} {x y z:Arg}
theorem z2B {id o:Nat} (hx:evL al x=.ptr id o) (h:VV P os ((d,.ptr id o)::al) H K Qp):VV P (⟨some d,.i (.d .nilCheck),[x],none,none⟩::os) al H K Qp :=
 z2V (v:=.ptr id o) (by simp only [evsL,hx,dsem]) h
theorem st_iface {t:TypeId} {v:AV} (hx:evL al x=v) (h:VV P os ((d,.iface t v)::al) H K Qp):VV P (⟨some d,.i (.d (.mkIface t)),[x],none,none⟩::os) al H K Qp :=
 z2V (v:=.iface t v) (by simp only [evsL,hx,dsem]) h
theorem z4Q {s:Bt} {i:Nat} (hx:evL al x=.str s) (hy:evL al y=.int .i64 i) (hi:i≤s.length) (h:VV P os ((d,.str (s.drop i))::al) H K Qp) :
  VV P (⟨some d,.i (.d (.sliceStr true false)),[x,y],none,none⟩::os) al H K Qp:=by
 refine st_slStr (a:=i) (b:=s.length) hx (evs_cons hy evs_nil) ?_ ?_
 ·simp only [bounds];rw [if_pos ⟨by omega,by omega⟩];simp
 ·rw [List.take_of_length_le (by simp)];exact h
theorem z3R {s:Bt} {i:Nat} (hx:evL al x=.str s) (hy:evL al y=.int .i64 i) (hi:i≤s.length) (h:VV P os ((d,.str (s.take i))::al) H K Qp) :
  VV P (⟨some d,.i (.d (.sliceStr false true)),[x,y],none,none⟩::os) al H K Qp:=by
 refine st_slStr (a:=0) (b:=i) hx (evs_cons hy evs_nil) ?_ ?_
 ·simp only [bounds];rw [if_pos ⟨by omega,by omega⟩];simp
 ·simpa using h
theorem z3E {s:Bt} {i j:Nat} (hx:evL al x=.str s) (hy:evL al y=.int .i64 i) (hz:evL al z=.int .i64 j) (hj:j≤s.length) (hi:i≤j) (h:VV P os ((d,.str ((s.take j).drop i))::al) H K Qp) :
  VV P (⟨some d,.i (.d (.sliceStr true true)),[x,y,z],none,none⟩::os) al H K Qp:=by
 refine st_slStr (a:=i) (b:=j) hx (evs_cons hy (evs_cons hz evs_nil)) ?_ ?_
 ·simp only [bounds];rw [if_pos ⟨by omega,by omega,by omega,by omega⟩];simp
 ·rw [List.drop_take] at h;exact h
end steps
theorem z0D {g n:Prop} (k:n) (h:Hide n→g:=by (intro k);(repeat (first | ((with_reducible apply z1W);focus (first | exact ev_c | (apply ev_t;(repeat (first | exact z1K | (apply z0Y;focus exact rfl) | exact lk_nil))))) | ((with_reducible apply z2B);exact rfl) | ((with_reducible apply st_iface);exact rfl) | ((with_reducible apply z4Q);exact rfl;exact rfl;(focus omega)) | ((with_reducible apply z3R);exact rfl;exact rfl;(focus omega)) | ((with_reducible apply z1M)) | ((with_reducible apply z4U);exact rfl;(focus assumption)) | ((with_reducible apply st_mkfB);exact rfl) | ((with_reducible apply st_adds);exact rfl;exact rfl;(focus ((try simp only [List.length_append,List.length_cons,List.length_nil]);omega))) | ((with_reducible apply st_idxA);(focus (first | exact ev_c | (apply ev_t;(repeat (first | exact z1K | (apply z0Y;focus exact rfl) | exact lk_nil)))));(focus assumption);exact rfl;(focus assumption)) | ((with_reducible apply st_idxS);(focus (first | exact ev_c | (apply ev_t;(repeat (first | exact z1K | (apply z0Y;focus exact rfl) | exact lk_nil)))));(focus assumption);exact rfl;(focus assumption)) | ((with_reducible apply z3T);exact rfl;exact rfl) | ((with_reducible apply z3F);exact rfl) | ((with_reducible apply st_lss);exact rfl;exact rfl) | ((with_reducible apply st_eqi);exact rfl;exact rfl) | ((with_reducible apply st_field);exact rfl;exact rfl) | ((with_reducible apply z3G);exact rfl;exact rfl) | ((with_reducible apply st_gtr);exact rfl;exact rfl) | ((with_reducible apply st_leq);exact rfl;exact rfl) | ((with_reducible apply st_geq);exact rfl;exact rfl) | ((with_reducible apply st_nei);exact rfl;exact rfl) | ((with_reducible apply st_eqs);exact rfl;exact rfl) | ((with_reducible apply st_nes);exact rfl;exact rfl) | ((with_reducible apply st_lts);exact rfl;exact rfl) | ((with_reducible apply st_gts);exact rfl;exact rfl) | ((with_reducible apply st_not);exact rfl) | ((with_reducible apply z3V);exact rfl;exact rfl) | ((with_reducible apply z4F);exact rfl;exact rfl) | ((with_reducible apply st_len);(focus (first | exact ev_c | (apply ev_t;(repeat (first | exact z1K | (apply z0Y;focus exact rfl) | exact lk_nil)))));(focus assumption)) | ((with_reducible apply st_idx);(focus (first | exact ev_c | (apply ev_t;(repeat (first | exact z1K | (apply z0Y;focus exact rfl) | exact lk_nil)))));(focus assumption);exact rfl;(focus assumption)) | ((with_reducible apply z3U);exact rfl;exact rfl;(focus assumption)) | ((with_reducible apply z2T);exact rfl;exact rfl;exact rfl;exact rfl;exact rfl;(focus (first | exact rfl | exact z1C));exact rfl) | ((with_reducible apply z3S);exact rfl;exact rfl;exact rfl) | ((with_reducible apply z4V);exact rfl;(focus (first | assumption | exact z0F (by assumption)));exact rfl) | ((with_reducible apply z2Y);exact rfl;exact rfl) | ((with_reducible apply z2Z);exact rfl;(focus (first | exact ev_c | (apply ev_t;(repeat (first | exact z1K | (apply z0Y;focus exact rfl) | exact lk_nil)))));exact rfl;exact rfl;exact rfl;exact rfl) | ((with_reducible apply z4E);exact rfl;exact rfl;exact rfl) | ((with_reducible apply z1N);exact rfl;(focus (first | assumption | exact z0F (by assumption)));exact rfl) | ((with_reducible apply st_box);(focus (first | exact ev_c | (apply ev_t;(repeat (first | exact z1K | (apply z0Y;focus exact rfl) | exact lk_nil)))));exact rfl;exact rfl;exact rfl) | ((with_reducible apply z1B);exact rfl) | ((with_reducible apply z3J);exact rfl) | ((with_reducible apply z2X);exact rfl;exact rfl;(focus (first | decide | omega))) | ((with_reducible apply z4W);exact rfl;(focus omega)) | ((with_reducible apply z3N);focus (repeat (first | exact kp_nil | ((with_reducible apply kp);focus (repeat (first | exact z1K | (apply z0Y;focus exact rfl) | exact lk_nil)))))) | ((with_reducible apply vs_end);focus (repeat (first | exact kp_nil | ((with_reducible apply kp);focus (repeat (first | exact z1K | (apply z0Y;focus exact rfl) | exact lk_nil)))))) | ((with_reducible apply vs_q);exact rfl;exact rfl) | ((with_reducible apply vs_b);exact rfl;exact rfl;(focus exact Nat.le_refl _)) | ((with_reducible apply st_finB)) | (with_reducible apply st_finQ) | ((with_reducible apply z4R);(focus (first | exact rfl | exact congrArg AV.bool (by assumption)));(focus (first | exact ev_c | (apply ev_t;(repeat (first | exact z1K | (apply z0Y;focus exact rfl) | exact lk_nil)))))) | ((with_reducible apply z4S);(focus (first | exact rfl | exact congrArg AV.bool (by assumption)));(focus (first | exact ev_c | (apply ev_t;(repeat (first | exact z1K | (apply z0Y;focus exact rfl) | exact lk_nil)))))) | ((with_reducible apply st_yes);(focus (first | exact rfl | exact congrArg AV.bool (by assumption)))) | ((with_reducible apply st_noT);(focus (first | exact rfl | exact congrArg AV.bool (by assumption)))) | ((with_reducible apply st_noF);(focus (first | exact rfl | exact congrArg AV.bool (by assumption)))) | ((with_reducible apply st_no');exact rfl) | with_reducible refine z2W ?_ | with_reducible refine z1Z ?_ | with_reducible refine nx_n ?_ | with_reducible refine z4A ?_ | with_reducible refine z5D ?_ | with_reducible refine iw_ret ?_ | with_reducible refine iw_exit ?_ | with_reducible refine nx_x ?_ | with_reducible refine nx_r ?_ | with_reducible refine bk_n ?_ | with_reducible refine bk_r ?_ | with_reducible refine bk_x ?_ | with_reducible refine bk_y rfl ?_ | ((with_reducible apply iw_yes);(focus (first | exact rfl | exact congrArg AV.bool (by assumption)))) | ((with_reducible apply iw_no);(focus (first | exact rfl | exact congrArg AV.bool (by assumption)))) | refine z2W ?_ | refine iw_drawq rfl rfl ?_ | with_reducible refine iw_drawS ?_));(exact k.h)):g:=h ⟨k⟩
theorem c278 {s p:Bt} (hs:s.length≤1000000) (hp:p.length≤1000000) (H:Heap):ACall PP 278 [.str s,.str p] H (Just H (.bool (s.take p.length==p))):=by
 refine ACall.gives (is278.c2 z0V mixed rfl ?_)
 refine z0D ?_
 cases h:decide ((s.length:Int)≥(p.length:Int))
 ·simp only [decide_eq_false_iff_not] at h
  have:(s.take p.length==p)=false:=by
   rw [beq_eq_false_iff_ne];intro e
   have:=congrArg List.length e
   rw [List.length_take] at this;omega
  rw [this]
  refine z0D ?_
  exact fr
 ·simp only [decide_eq_true_eq] at h
  refine z0D ?_
  exact fr
theorem c259 {s p:Bt} (hs:s.length≤1000000) (hp:p.length≤1000000) (H:Heap):ACall PP 259 [.str s,.str p] H (Just H (.bool (s.take p.length==p))):=by
 refine ACall.gives (is259.c2 z0V mixed rfl ?_)
 refine z0D ?_
 refine z0G rfl (c278 hs hp _) ?_
 refine z0D ?_
 exact fr
theorem c207 (s:Bt) (c:UInt8) (H:Heap):ACall PP 207 [.str s,.int .u8 c.toNat] H (Just H (.int .i64 (Lib.indexByte s c))) :=
 indexByte_ok _ _ _ (by simp [ansIndexByte])
theorem c172 (s:Bt) (c:UInt8) (H:Heap):ACall PP 172 [.str s,.int .u8 c.toNat] H (Just H (.int .i64 (Lib.indexByte s c))):=by
 refine ACall.gives (is172.c2 z0V mixed rfl ?_)
 refine z0D ?_
 refine z0G rfl (c207 s c _) ?_
 refine z0D ?_
 exact fr
theorem index_has (c:UInt8):∀ l:Bt,decide (Lib.indexByte l c≥0)=l.contains c
 | []=>rfl
 | b::l=>by
  have ih:=index_has c l
  have hg:=Lib.indexByte_ge l c
  unfold Lib.indexByte
  by_cases hb:b=c
  ·subst hb;simp
  ·have e:(b==c)=false:=by simpa using hb
   have e2:(b::l).contains c=l.contains c:=by
    simp only [List.contains_cons]
    have:(c==b)=false:=by simpa using fun h=>hb h.symm
    rw [this,Bool.false_or]
   rw [e,e2,←ih]
   simp only [Bool.false_eq_true,if_false]
   by_cases h1:Lib.indexByte l c = -1
   ·rw [h1];simp
   ·have:(Lib.indexByte l c == -1)=false:=by simpa using h1
    rw [this]
    simp only [Bool.false_eq_true,if_false,decide_eq_decide];omega
theorem c260 (c:UInt8) (H:Heap):ACall PP 260 [.int .u8 c.toNat] H (Just H (.bool (isSig c))):=by
 refine ACall.gives (is260.c1 z0V mixed rfl ?_)
 unfold isSig
 refine z0D ?_
 cases h1:decide ((c.toNat:Int)>32)
 ·refine z0D ?_
  exact fr
 ·refine z0D ?_
  cases h2:decide ((c.toNat:Int)<127)
  ·refine z0D ?_
   exact fr
  ·refine z0D ?_
   cases h3:((c.toNat:Int) != 60)
   ·refine z0D ?_
    exact fr
   ·refine z0D ?_
    exact fr
theorem c296 {t:Bt} (ht:t.length≤1000000) (H:Heap):ACall PP 296 [.str t] H (Just H (.bool (bgn t))):=by
 refine ACall.gives (is296.c1 z0V mixed rfl ?_)
 have e1:(t != []) = !(t==[]):=rfl
 have e2:(t != [61,62]) = !(t==[61,62]):=rfl
 unfold bgn
 rw [e1,e2]
 refine z0D ?_
 cases h1:(t==[])
 ·match t,h1 with
  | c::t,_ =>
   have hc:(c::t)[0]? =some c:=rfl
   refine z0D ?_
   cases h2:((c::t)==[61,62])
   ·refine z0D ?_
    have e3:decide (((c::t).length:Int)>1)=decide (1<(c::t).length):=by simp only [decide_eq_decide];omega
    rw [e3]
    cases h3:decide (1<(c::t).length)
    ·refine z0D ?_
     refine z0G rfl (c250 c _) ?_
     refine z0D ?_
     cases h4:isAl c
     ·refine z0D ?_
      refine z0G rfl (c172 _ c _) ?_
      have e5:=index_has c [126,36,46,33,91]
      generalize Lib.indexByte [126,36,46,33,91] c=ix at *
      refine z0D ?_
      rw [e5]
      simp only [List.headD_cons,h4]
      refine z0D ?_
      exact fr
     ·simp only [List.headD_cons,h4]
      refine z0D ?_
      exact fr
    ·refine z0D ?_
     exact fr
   ·refine z0D ?_
    exact fr
 ·refine z0D ?_
  exact fr
end Go.Ab
