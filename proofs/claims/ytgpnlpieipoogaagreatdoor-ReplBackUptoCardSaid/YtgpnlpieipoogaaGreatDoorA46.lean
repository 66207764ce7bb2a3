/- Part 46 of the proof. -/
import Derived.Test.YtgpnlpieipoogaaGreatDoorA26
import Derived.Test.YtgpnlpieipoogaaGreatDoorA34
set_option linter.unusedVariables false
set_option linter.unusedSimpArgs false
namespace Go.Ab
open Go
set_option maxRecDepth 100000
set_option maxHeartbeats 8000000
theorem walkM {g n:Prop} (k:n) (h:Hide n→g:=by (intro k);(repeat (first | ((with_reducible apply st_mkM);exact rfl;exact rfl) | ((with_reducible apply st_updI (n:=1));exact rfl;exact rfl;exact rfl;exact rfl;exact rfl;exact rfl) | ((with_reducible apply st_lookI (n:=1));exact rfl;exact rfl;exact rfl;exact rfl;exact rfl) | ((with_reducible apply z3A);focus (first | exact ev_c | (apply ev_t;(repeat (first | exact z0L | (apply z0J;focus exact rfl) | exact z0K))))) | ((with_reducible apply z4Z);exact rfl;exact rfl;(focus ((try simp only [List.length_append,List.length_cons,List.length_nil]);omega))) | ((with_reducible apply z3R);(focus (first | exact ev_c | (apply ev_t;(repeat (first | exact z0L | (apply z0J;focus exact rfl) | exact z0K)))));(focus assumption);exact rfl;(focus assumption)) | ((with_reducible apply z3Q);(focus (first | exact ev_c | (apply ev_t;(repeat (first | exact z0L | (apply z0J;focus exact rfl) | exact z0K)))));(focus assumption);exact rfl;(focus assumption)) | ((with_reducible apply z2L);exact rfl;exact rfl) | ((with_reducible apply z2M);exact rfl) | ((with_reducible apply z4P);exact rfl;exact rfl) | ((with_reducible apply z4W);exact rfl;exact rfl) | ((with_reducible apply z3C);exact rfl;exact rfl) | ((with_reducible apply z2B);exact rfl;exact rfl) | ((with_reducible apply z4T);exact rfl;exact rfl) | ((with_reducible apply z4Q);exact rfl;exact rfl) | ((with_reducible apply z4U);exact rfl;exact rfl) | ((with_reducible apply z4M);exact rfl;exact rfl) | ((with_reducible apply z4V);exact rfl;exact rfl) | ((with_reducible apply z4L);exact rfl;exact rfl) | ((with_reducible apply z4N);exact rfl;exact rfl) | ((with_reducible apply z4S);exact rfl;exact rfl) | ((with_reducible apply z4K);exact rfl) | ((with_reducible apply z2P);exact rfl;exact rfl) | ((with_reducible apply z2X);exact rfl;exact rfl) | ((with_reducible apply z4B);(focus (first | exact ev_c | (apply ev_t;(repeat (first | exact z0L | (apply z0J;focus exact rfl) | exact z0K)))));(focus assumption)) | ((with_reducible apply z3Z);(focus (first | exact ev_c | (apply ev_t;(repeat (first | exact z0L | (apply z0J;focus exact rfl) | exact z0K)))));(focus assumption);exact rfl;(focus assumption)) | ((with_reducible apply z2N);exact rfl;exact rfl;(focus assumption)) | ((with_reducible apply z1J);exact rfl;exact rfl;exact rfl;exact rfl;exact rfl;(focus (first | exact rfl | exact z1C));exact rfl) | ((with_reducible apply z2K);exact rfl;exact rfl;exact rfl) | ((with_reducible apply z3B);exact rfl;(focus (first | assumption | exact z0H (by assumption)));exact rfl) | ((with_reducible apply z1Z);exact rfl;exact rfl) | ((with_reducible apply z1X);exact rfl;(focus (first | exact ev_c | (apply ev_t;(repeat (first | exact z0L | (apply z0J;focus exact rfl) | exact z0K)))));exact rfl;exact rfl;exact rfl;exact rfl) | ((with_reducible apply z2W);exact rfl;exact rfl;exact rfl) | ((with_reducible apply z1T);exact rfl;(focus (first | assumption | exact z0H (by assumption)));exact rfl) | ((with_reducible apply z4C);(focus (first | exact ev_c | (apply ev_t;(repeat (first | exact z0L | (apply z0J;focus exact rfl) | exact z0K)))));exact rfl;exact rfl;exact rfl) | ((with_reducible apply z1M);exact rfl) | ((with_reducible apply z2S);exact rfl) | ((with_reducible apply z2E);exact rfl;exact rfl;(focus (first | decide | omega))) | ((with_reducible apply z4R);exact rfl;(focus omega)) | ((with_reducible apply z3T);focus (repeat (first | exact kp_nil | ((with_reducible apply kp);focus (repeat (first | exact z0L | (apply z0J;focus exact rfl) | exact z0K)))))) | ((with_reducible apply vs_end);focus (repeat (first | exact kp_nil | ((with_reducible apply kp);focus (repeat (first | exact z0L | (apply z0J;focus exact rfl) | exact z0K)))))) | ((with_reducible apply vs_q);exact rfl;exact rfl) | ((with_reducible apply vs_b);exact rfl;exact rfl;(focus exact Nat.le_refl _)) | ((with_reducible apply z5L)) | (with_reducible apply z5K) | ((with_reducible apply z4E);(focus (first | exact rfl | exact congrArg AV.bool (by assumption)));(focus (first | exact ev_c | (apply ev_t;(repeat (first | exact z0L | (apply z0J;focus exact rfl) | exact z0K)))))) | ((with_reducible apply z4F);(focus (first | exact rfl | exact congrArg AV.bool (by assumption)));(focus (first | exact ev_c | (apply ev_t;(repeat (first | exact z0L | (apply z0J;focus exact rfl) | exact z0K)))))) | ((with_reducible apply st_yes);(focus (first | exact rfl | exact congrArg AV.bool (by assumption)))) | ((with_reducible apply st_noT);(focus (first | exact rfl | exact congrArg AV.bool (by assumption)))) | ((with_reducible apply st_noF);(focus (first | exact rfl | exact congrArg AV.bool (by assumption)))) | ((with_reducible apply st_no');exact rfl) | with_reducible refine z2V ?_ | with_reducible refine z1N ?_ | with_reducible refine nx_n ?_ | with_reducible refine z3V ?_ | with_reducible refine z4J ?_ | with_reducible refine iw_ret ?_ | with_reducible refine z5N ?_ | with_reducible refine nx_x ?_ | with_reducible refine nx_r ?_ | with_reducible refine bk_n ?_ | with_reducible refine bk_r ?_ | with_reducible refine bk_x ?_ | with_reducible refine bk_y rfl ?_ | ((with_reducible apply z5Q);(focus (first | exact rfl | exact congrArg AV.bool (by assumption)))) | ((with_reducible apply iw_no);(focus (first | exact rfl | exact congrArg AV.bool (by assumption)))) | refine z2V ?_));(exact k.h)):g:=h ⟨k⟩
theorem c186w {e:Ex} (he:okE e) (ho:0≤e.op∧e.op≤15) (h:∀ least H,decide (lvl e.op<least)=false→ACall PP 117 [enc e,.int .i64 least] H (Just H (.str (body e)))) (least:Int) (H:Heap) :
  ACall PP 117 [enc e,.int .i64 least] H (Just H (.str (textE e least))):=by
 have h0:decide (lvl e.op<0)=false:=by
  have:=lvl_nonneg e.op
  simp only [decide_eq_false_iff_not];omega
 cases hl:decide (lvl e.op<least)
 ·have:textE e least=body e:=by
   simp only [decide_eq_false_iff_not] at hl
   unfold textE tx;rw [if_neg hl]
  rw [this]
  exact h least H hl
 ·have ht:textE e least=[91]++body e++[93]:=by
   simp only [decide_eq_true_eq] at hl
   unfold textE tx;rw [if_pos hl]
  have hb:=body_le e
  have h2:=fun H=>h 0 H h0
  rw [ht]
  unfold okE at he
  obtain ⟨op,s,nl,l⟩:=e
  simp only [Ex.op] at ho hl
  have k:=fun H=>c218 ho H
  rw [z0U] at h2 ⊢
  refine ACall.gives (is117.c2 z0W mixed rfl ?_)
  refine z0G ?_
  refine z0F rfl (k _) ?_
  refine z0G ?_
  refine z0F rfl (h2 _) ?_
  refine z3L ?_
  exact fr
theorem jn_join (sg:Bt) (f:Int) (ks:List Kd):jn sg f f ks=Lib.join (ks.map (tx f)) sg:=by
 cases ks with
 | nil=>rfl
 | cons k ks =>
  rw [List.map_cons,Lib.join_cons]
  show tx f k++tails sg f ks=_
  congr 1
  induction ks with
  | nil=>rfl
  | cons x xs ih=>simp only [tails,ih,Lib.joinTail,List.map_cons,List.flatten_cons]
theorem txs_le (f:Int):∀ l:List Ex,(bodies l).map (tx f)=l.map (fun x=>textE x f):=by
 intro l
 rw [bodies_map,List.map_map];rfl
theorem OwnS.src {H0 H:Heap} {v:AV} {l:List Bt} (h:OwnS H0 H v l):srcOf 1 H v=some (l.length,l.map .str):=by
 rcases h.2 with ⟨rfl,rfl⟩ | ⟨id,rfl,hid,_,_⟩
 ·rfl
 ·simp only [srcOf,hid,if_true]
  rw [if_pos (by simp)]
  simp
  exact List.take_of_length_le (by simp)
theorem c186 (e:Ex) (he:okE e) (hz:e.size≤40) (hr:e.right=true) (least:Int) (H:Heap):ACall PP 117 [enc e,.int .i64 least] H (Just H (.str (textE e least))):=by
 match e,he,hz,hr with
 | .mk op s nl l,he,hz,hr =>
  obtain ⟨ho,hf0,hf3,hf2,hf1,hkr⟩:=right_facts hr
  refine c186w he ho (fun least H hl=>?_) least H
  have hzl:∀ x∈l,x.size≤40:=fun x hx=>by have:=size_mem hx;simp only [Ex.size] at hz;omega
  have hk:∀ x∈l,∀ least H,ACall PP 117 [enc x,.int .i64 least] H (Just H (.str (textE x least))):=fun x hx least H=>c186 x (okE_kid he hx) (hzl x hx) (hkr x hx) least H
  have hs:=sl_lst nl l
  have hsl:=okE_s he
  have hwl:ws l≤1000000000000:=by unfold okE at he;simp only [Ex.w] at he;omega
  have hll:l.length≤40:=by have:=length_sizes l;simp only [Ex.size] at hz;omega
  have k:=fun H=>c218 ho H
  have ks:=fun (h3:op≤3) H=>c219 (nl:=nl) (l:=l) hsl ⟨ho.1,h3⟩ hf0 H
  simp only [Ex.op] at hl
  rw [z0U] at ks ⊢
  rw [show body (.mk op s nl l)=node op s (bodies l) from rfl]
  refine ACall.gives (is117.c2 z0W mixed rfl ?_)
  refine z0G ?_
  refine z0F rfl (k _) ?_
  refine z0G ?_
  have:op=14∨(op=7∨op=15∨op=13)∨(op=5∨op=6∨op=4)∨(op=11∨op=12)∨(op=8∨op=9∨op=10)∨(op=0∨op=1∨op=2∨op=3):=by omega
  rcases this with h1 | h1 | h1 | h1 | h1 | h1
  ·subst h1
   match l,hf3 rfl with
   | [a,b,c],_ =>
    have ka:=hk a (by simp) 1
    have kb:=hk b (by simp) 1
    have kc:=hk c (by simp) 1
    have ta:=textE_le a 1
    have tb:=textE_le b 1
    have tc:=textE_le c 1
    rw [ws3] at hwl
    have ho:node 14 s (bodies [a,b,c])=textE a 1++[32,61,62]++(if (b.op != 2) then [32]++textE b 1 else [])++[32,95]++(if (c.op != 2) then [32]++textE c 1 else []):=rfl
    rw [ho]
    generalize textE a 1=wa at *
    generalize textE b 1=wb at *
    generalize textE c 1=wc at *
    obtain ⟨op1,s1,nl1,l1⟩:=a
    obtain ⟨op2,s2,nl2,l2⟩:=b
    obtain ⟨op3,s3,nl3,l3⟩:=c
    simp only [Ex.op]
    have hu0:=getmap (f:=enc) (show [Ex.mk op1 s1 nl1 l1,.mk op2 s2 nl2 l2,.mk op3 s3 nl3 l3][0]? =some _ from rfl)
    have hu1:=getmap (f:=enc) (show [Ex.mk op1 s1 nl1 l1,.mk op2 s2 nl2 l2,.mk op3 s3 nl3 l3][1]? =some _ from rfl)
    have hu2:=getmap (f:=enc) (show [Ex.mk op1 s1 nl1 l1,.mk op2 s2 nl2 l2,.mk op3 s3 nl3 l3][2]? =some _ from rfl)
    rw [z0U] at ka kb kc hu0 hu1 hu2
    refine z0G ?_
    refine z0F rfl (ka _) ?_
    refine z3L ?_
    refine z0T _ rfl ?_ ?_<;>intro hb
    ·refine z0G ?_
     refine z0F rfl (kb _) ?_
     refine z3L ?_
     refine z0T _ rfl ?_ ?_<;>intro hc
     ·refine z0G ?_
      refine z0F rfl (kc _) ?_
      refine z3L ?_
      (refine frs ?_ rfl);simp [hb,hc]
     ·refine z0G ?_
      (refine frs ?_ rfl);simp [hb,hc]
    ·refine z3L ?_
     refine z0T _ rfl ?_ ?_<;>intro hc
     ·refine z0G ?_
      refine z0F rfl (kc _) ?_
      refine z3L ?_
      (refine frs ?_ rfl);simp [hb,hc]
     ·refine z0G ?_
      (refine frs ?_ rfl);simp [hb,hc]
  ·match l,hf2 (by omega) with
   | [a,b],_ =>
    have ta:=textE_le a (lvl op)
    have tb:=textE_le b (lvl op+1)
    have ka:=hk a (by simp) (lvl op)
    have kb:=hk b (by simp) (lvl op+1)
    have hww:a.w+(b.w+0)≤1000000000000:=hwl
    have hn:∀ sg:Bt,(sg=if op=7 then [32,45,32] else if op=15 then [32,37,32] else [32,47,32])→node op s (bodies [a,b])=textE a (lvl op)++sg++textE b (lvl op+1):=by
     rintro sg rfl
     rcases h1 with rfl | rfl | rfl<;>simp [node,bodies,jn,tails,textE,lvl]
    obtain ⟨op1,s1,nl1,l1⟩:=a
    obtain ⟨op2,s2,nl2,l2⟩:=b
    have hu0:=getmap (f:=enc) (show [Ex.mk op1 s1 nl1 l1,.mk op2 s2 nl2 l2][0]? =some _ from rfl)
    have hu1:=getmap (f:=enc) (show [Ex.mk op1 s1 nl1 l1,.mk op2 s2 nl2 l2][1]? =some _ from rfl)
    rw [z0U] at ka kb hu0 hu1
    rcases h1 with rfl | rfl | rfl
    ·rw [hn _ rfl]
     generalize textE (.mk op1 s1 nl1 l1) (lvl 7)=wa at *
     generalize textE (.mk op2 s2 nl2 l2) (lvl 7+1)=wb at *
     refine walkM ?_
     refine z3L ?_
     refine st_op (v:=.int .i64 (lvl 7+1)) rfl rfl ?_
     refine z3L ?_
     refine z0F rfl (ka _) ?_
     refine z3L ?_
     refine z0F rfl (kb _) ?_
     refine z3L ?_
     exact fr
    ·rw [hn _ rfl]
     generalize textE (.mk op1 s1 nl1 l1) (lvl 15)=wa at *
     generalize textE (.mk op2 s2 nl2 l2) (lvl 15+1)=wb at *
     refine walkM ?_
     refine z3L ?_
     refine st_op (v:=.int .i64 (lvl 15+1)) rfl rfl ?_
     refine z3L ?_
     refine z0F rfl (ka _) ?_
     refine z3L ?_
     refine z0F rfl (kb _) ?_
     refine z3L ?_
     exact fr
    ·rw [hn _ rfl]
     generalize textE (.mk op1 s1 nl1 l1) (lvl 13)=wa at *
     generalize textE (.mk op2 s2 nl2 l2) (lvl 13+1)=wb at *
     refine walkM ?_
     refine z3L ?_
     refine st_op (v:=.int .i64 (lvl 13+1)) rfl rfl ?_
     refine z3L ?_
     refine z0F rfl (ka _) ?_
     refine z3L ?_
     refine z0F rfl (kb _) ?_
     refine z3L ?_
     exact fr
  ·rcases h1 with rfl | rfl | rfl
   ·have hj:node 5 s (bodies l)=Lib.join (l.map fun x=>textE x (lvl 5+1)) [32,124,32]:=by
     rw [←txs_le]
     exact jn_join [32,124,32] (lvl 5+1) (bodies l)
    have hjl:(Lib.join (l.map fun x=>textE x (lvl 5+1)) [32,124,32]).length≤140737488355328:=by
     rw [←hj]
     have h1:=jn_le [32,124,32] (by decide) (lvl 5+1) (lvl 5+1) (bodies l)
     have h2:=bodies_le l
     exact Nat.le_trans h1 (by omega)
    rw [hj]
    have hlm:(l.map enc).length=l.length:=List.length_map _
    refine walkM ?_
    refine z1B l.length (fun i al H'=>∃ ov,al=[(5,.int .i64 (lvl 5)),(8,.str [32,124,32]),(9,ov),(98,lst nl l),(99,.int .i64 (l.map enc).length),(100,.int .i64 i)]∧OwnS H H' ov ((l.take i).map fun x=>textE x (lvl 5+1))) ⟨_,rfl,OwnS.nil ⟨_,rfl⟩⟩ ?_
    rintro i _ H1 hi ⟨ov,rfl,hO⟩
    refine wi_nil ?_
    have hO1:=hO.app []
    refine z0G ?_
    refine z0T _ rfl ?_ ?_<;>intro hc
    ·simp only [decide_eq_true_eq] at hc
     obtain ⟨c,hc⟩:=z1E (l:=l) (i:=i) (by omega)
     have hu:=getmap (f:=enc) hc
     have kc:=hk c (List.mem_of_getElem? hc) (lvl 5+1)
     rw [z1U hc,List.map_append,List.map_singleton]
     generalize textE c (lvl 5+1)=wc at *
     obtain ⟨op',s',nl',l'⟩:=c
     rw [z0U] at hu kc
     refine z0G ?_
     refine st_op (v:=.int .i64 (lvl 5+1)) rfl rfl ?_
     refine z0G ?_
     refine z0F rfl (kc _) ?_
     refine z0G ?_
     refine z0V (out:=[.str wc]) rfl ?_
     have hlen:((l.take i).map fun x=>textE x (lvl 5+1)).length+[wc].length≤1000000000:=by rw [List.length_map,List.length_take,List.length_singleton];omega
     refine z3S (ys:=[wc]) rfl (((hO.app _).app _)) (srcOf_last rfl) hlen ?_
     intro v' H' hO'
     refine z0G ?_
     exact ⟨by omega,v',rfl,hO'⟩
    simp only [decide_eq_false_iff_not] at hc
    rw [show l.take i=l from List.take_of_length_le (by omega)] at hO1
    refine z0G ?_
    refine z0F rfl (z3N hO1.src (by simp;omega) hjl) ?_
    refine z0G ?_
    exact z1G rfl (z0M hO1.1 (Plain.str _))
   ·have hj:node 6 s (bodies l)=Lib.join (l.map fun x=>textE x (lvl 6+1)) [32,38,32]:=by
     rw [←txs_le]
     exact jn_join [32,38,32] (lvl 6+1) (bodies l)
    have hjl:(Lib.join (l.map fun x=>textE x (lvl 6+1)) [32,38,32]).length≤140737488355328:=by
     rw [←hj]
     have h1:=jn_le [32,38,32] (by decide) (lvl 6+1) (lvl 6+1) (bodies l)
     have h2:=bodies_le l
     exact Nat.le_trans h1 (by omega)
    rw [hj]
    have hlm:(l.map enc).length=l.length:=List.length_map _
    refine walkM ?_
    refine z1B l.length (fun i al H'=>∃ ov,al=[(5,.int .i64 (lvl 6)),(8,.str [32,38,32]),(9,ov),(98,lst nl l),(99,.int .i64 (l.map enc).length),(100,.int .i64 i)]∧OwnS H H' ov ((l.take i).map fun x=>textE x (lvl 6+1))) ⟨_,rfl,OwnS.nil ⟨_,rfl⟩⟩ ?_
    rintro i _ H1 hi ⟨ov,rfl,hO⟩
    refine wi_nil ?_
    have hO1:=hO.app []
    refine z0G ?_
    refine z0T _ rfl ?_ ?_<;>intro hc
    ·simp only [decide_eq_true_eq] at hc
     obtain ⟨c,hc⟩:=z1E (l:=l) (i:=i) (by omega)
     have hu:=getmap (f:=enc) hc
     have kc:=hk c (List.mem_of_getElem? hc) (lvl 6+1)
     rw [z1U hc,List.map_append,List.map_singleton]
     generalize textE c (lvl 6+1)=wc at *
     obtain ⟨op',s',nl',l'⟩:=c
     rw [z0U] at hu kc
     refine z0G ?_
     refine st_op (v:=.int .i64 (lvl 6+1)) rfl rfl ?_
     refine z0G ?_
     refine z0F rfl (kc _) ?_
     refine z0G ?_
     refine z0V (out:=[.str wc]) rfl ?_
     have hlen:((l.take i).map fun x=>textE x (lvl 6+1)).length+[wc].length≤1000000000:=by rw [List.length_map,List.length_take,List.length_singleton];omega
     refine z3S (ys:=[wc]) rfl (((hO.app _).app _)) (srcOf_last rfl) hlen ?_
     intro v' H' hO'
     refine z0G ?_
     exact ⟨by omega,v',rfl,hO'⟩
    simp only [decide_eq_false_iff_not] at hc
    rw [show l.take i=l from List.take_of_length_le (by omega)] at hO1
    refine z0G ?_
    refine z0F rfl (z3N hO1.src (by simp;omega) hjl) ?_
    refine z0G ?_
    exact z1G rfl (z0M hO1.1 (Plain.str _))
   ·have hj:node 4 s (bodies l)=Lib.join (l.map fun x=>textE x (lvl 4+1)) []:=by
     rw [←txs_le]
     exact jn_join [] (lvl 4+1) (bodies l)
    have hjl:(Lib.join (l.map fun x=>textE x (lvl 4+1)) []).length≤140737488355328:=by
     rw [←hj]
     have h1:=jn_le [] (by decide) (lvl 4+1) (lvl 4+1) (bodies l)
     have h2:=bodies_le l
     exact Nat.le_trans h1 (by omega)
    rw [hj]
    have hlm:(l.map enc).length=l.length:=List.length_map _
    refine walkM ?_
    refine z1B l.length (fun i al H'=>∃ ov,al=[(5,.int .i64 (lvl 4)),(8,.str []),(9,ov),(98,lst nl l),(99,.int .i64 (l.map enc).length),(100,.int .i64 i)]∧OwnS H H' ov ((l.take i).map fun x=>textE x (lvl 4+1))) ⟨_,rfl,OwnS.nil ⟨_,rfl⟩⟩ ?_
    rintro i _ H1 hi ⟨ov,rfl,hO⟩
    refine wi_nil ?_
    have hO1:=hO.app []
    refine z0G ?_
    refine z0T _ rfl ?_ ?_<;>intro hc
    ·simp only [decide_eq_true_eq] at hc
     obtain ⟨c,hc⟩:=z1E (l:=l) (i:=i) (by omega)
     have hu:=getmap (f:=enc) hc
     have kc:=hk c (List.mem_of_getElem? hc) (lvl 4+1)
     rw [z1U hc,List.map_append,List.map_singleton]
     generalize textE c (lvl 4+1)=wc at *
     obtain ⟨op',s',nl',l'⟩:=c
     rw [z0U] at hu kc
     refine z0G ?_
     refine st_op (v:=.int .i64 (lvl 4+1)) rfl rfl ?_
     refine z0G ?_
     refine z0F rfl (kc _) ?_
     refine z0G ?_
     refine z0V (out:=[.str wc]) rfl ?_
     have hlen:((l.take i).map fun x=>textE x (lvl 4+1)).length+[wc].length≤1000000000:=by rw [List.length_map,List.length_take,List.length_singleton];omega
     refine z3S (ys:=[wc]) rfl (((hO.app _).app _)) (srcOf_last rfl) hlen ?_
     intro v' H' hO'
     refine z0G ?_
     exact ⟨by omega,v',rfl,hO'⟩
    simp only [decide_eq_false_iff_not] at hc
    rw [show l.take i=l from List.take_of_length_le (by omega)] at hO1
    refine z0G ?_
    refine z0F rfl (z3N hO1.src (by simp;omega) hjl) ?_
    refine z0G ?_
    exact z1G rfl (z0M hO1.1 (Plain.str _))
  ·match l,hf1 (by omega) with
   | [x],_ =>
    obtain ⟨op1,s1,nl1,l1,hx⟩:∃ a b c d,x=.mk a b c d:=by cases x;exact ⟨_,_,_,_,rfl⟩
    have hu:=get1 hx
    have k7:=hk x (by simp) 7
    have t7:=textE_le x 7
    have hxw:x.w≤1000000000000:=by simp only [ws] at hwl;omega
    have en:enc x=.agg [.int .i64 op1,.str s1,lst nl1 l1]:=by rw [hx,z0U]
    rw [en] at k7
    rw [show bodies [x]=[(x.op,body x)] from rfl]
    rcases h1 with rfl | rfl
    all_goals
     refine z0G ?_
     refine z0F rfl (k7 _) ?_
     refine z3L ?_
     exact fr
  ·match l,hf1 (by omega) with
   | [x],_ =>
    have hokp:∀ off,okRd (H.length+1) (.ptr (H.length+0) off)=true:=fun off=>by simp [okRd,Nat.blt_eq]
    have t8:=textE_le x 8
    have hxw:x.w≤1000000000000:=by simp only [ws] at hwl;omega
    have hk:=hk x (by simp) 8
    rw [show bodies [x]=[(x.op,body x)] from rfl]
    have hd:hdT 8 [(x.op,body x)]=textE x 8:=rfl
    obtain ⟨op1,s1,nl1,l1,hx⟩:∃ a b c d,x=.mk a b c d:=by cases x;exact ⟨_,_,_,_,rfl⟩
    have hu:=get1 hx
    have en:enc x=.agg [.int .i64 op1,.str s1,lst nl1 l1]:=by rw [hx,z0U]
    rw [en] at hk
    rcases h1 with rfl | rfl | rfl
    ·rw [show node 8 s [(x.op,body x)]=textE x 8++[42] from rfl]
     generalize textE x 8=wx at *
     refine walkN ?_
     refine wi_cut (fun al' H'=>al'=[(4,.str (wx++[42]))]∧∃ es n,H'=H++[.cells [.int .i64 8,.str s,lst nl [x]],.map es n]) ?_ ?_
     ·refine iw_drawR ?_
      (repeat (first | ((with_reducible apply z3A);focus (first | exact ev_c | (apply ev_t;(repeat (first | exact z0L | (apply z0J;focus exact rfl) | exact z0K))))) | ((with_reducible apply z4Z);exact rfl;exact rfl;(focus ((try simp only [List.length_append,List.length_cons,List.length_nil]);omega))) | ((with_reducible apply z3R);(focus (first | exact ev_c | (apply ev_t;(repeat (first | exact z0L | (apply z0J;focus exact rfl) | exact z0K)))));(focus assumption);exact rfl;(focus assumption)) | ((with_reducible apply z3Q);(focus (first | exact ev_c | (apply ev_t;(repeat (first | exact z0L | (apply z0J;focus exact rfl) | exact z0K)))));(focus assumption);exact rfl;(focus assumption)) | ((with_reducible apply z2L);exact rfl;exact rfl) | ((with_reducible apply z2M);exact rfl) | ((with_reducible apply z4P);exact rfl;exact rfl) | ((with_reducible apply z4W);exact rfl;exact rfl) | ((with_reducible apply z3C);exact rfl;exact rfl) | ((with_reducible apply z2B);exact rfl;exact rfl) | ((with_reducible apply z4T);exact rfl;exact rfl) | ((with_reducible apply z4Q);exact rfl;exact rfl) | ((with_reducible apply z4U);exact rfl;exact rfl) | ((with_reducible apply z4M);exact rfl;exact rfl) | ((with_reducible apply z4V);exact rfl;exact rfl) | ((with_reducible apply z4L);exact rfl;exact rfl) | ((with_reducible apply z4N);exact rfl;exact rfl) | ((with_reducible apply z4S);exact rfl;exact rfl) | ((with_reducible apply z4K);exact rfl) | ((with_reducible apply z2P);exact rfl;exact rfl) | ((with_reducible apply z2X);exact rfl;exact rfl) | ((with_reducible apply z4B);(focus (first | exact ev_c | (apply ev_t;(repeat (first | exact z0L | (apply z0J;focus exact rfl) | exact z0K)))));(focus assumption)) | ((with_reducible apply z3Z);(focus (first | exact ev_c | (apply ev_t;(repeat (first | exact z0L | (apply z0J;focus exact rfl) | exact z0K)))));(focus assumption);exact rfl;(focus assumption)) | ((with_reducible apply z2N);exact rfl;exact rfl;(focus assumption)) | ((with_reducible apply z1J);exact rfl;exact rfl;exact rfl;exact rfl;exact rfl;(focus (first | exact rfl | exact z1C));exact rfl) | ((with_reducible apply z2K);exact rfl;exact rfl;exact rfl) | ((with_reducible apply z3B);exact rfl;(focus (first | assumption | exact z0H (by assumption)));exact rfl) | ((with_reducible apply z1Z);exact rfl;exact rfl) | ((with_reducible apply z1X);exact rfl;(focus (first | exact ev_c | (apply ev_t;(repeat (first | exact z0L | (apply z0J;focus exact rfl) | exact z0K)))));exact rfl;exact rfl;exact rfl;exact rfl) | ((with_reducible apply z2W);exact rfl;exact rfl;exact rfl) | ((with_reducible apply z1T);exact rfl;(focus (first | assumption | exact z0H (by assumption)));exact rfl) | ((with_reducible apply z4C);(focus (first | exact ev_c | (apply ev_t;(repeat (first | exact z0L | (apply z0J;focus exact rfl) | exact z0K)))));exact rfl;exact rfl;exact rfl) | ((with_reducible apply z1M);exact rfl) | ((with_reducible apply z2S);exact rfl) | ((with_reducible apply z2E);exact rfl;exact rfl;(focus (first | decide | omega))) | ((with_reducible apply z4R);exact rfl;(focus omega)) | ((with_reducible apply vt_q);exact rfl;exact rfl;(focus (first | exact hr_d | exact hr_l rfl | exact hr_l (hokp _)))) | (with_reducible apply st_finT) | ((with_reducible apply vt_end);focus (repeat (first | exact kp_nil | ((with_reducible apply kp);focus (repeat (first | exact z0L | (apply z0J;focus exact rfl) | exact z0K)))))) | ((with_reducible apply st_updI (n:=1));exact rfl;exact rfl;exact rfl;exact rfl;exact rfl;exact rfl) | ((with_reducible apply st_lookI (n:=1));exact rfl;exact rfl;exact rfl;exact rfl;exact rfl) | ((with_reducible apply z0F);exact rfl;(focus exact hk _)) | with_reducible refine z5E pres1 ?_ | with_reducible exact vt_stop | with_reducible refine vt_or (vt_mk rfl ?_) ?_ | with_reducible refine vt_or (vt_b rfl rfl base1 ?_) ?_ | exact nx_n ⟨rfl,_,_,rfl⟩))
     ·rintro _ _ ⟨rfl,es,n,rfl⟩
      refine z0G ?_
      exact fr
    ·rw [show node 9 s [(x.op,body x)]=textE x 8++[43] from rfl]
     generalize textE x 8=wx at *
     refine walkN ?_
     refine wi_cut (fun al' H'=>al'=[(4,.str (wx++[43]))]∧∃ es n,H'=H++[.cells [.int .i64 9,.str s,lst nl [x]],.map es n]) ?_ ?_
     ·refine iw_drawR ?_
      (repeat (first | ((with_reducible apply z3A);focus (first | exact ev_c | (apply ev_t;(repeat (first | exact z0L | (apply z0J;focus exact rfl) | exact z0K))))) | ((with_reducible apply z4Z);exact rfl;exact rfl;(focus ((try simp only [List.length_append,List.length_cons,List.length_nil]);omega))) | ((with_reducible apply z3R);(focus (first | exact ev_c | (apply ev_t;(repeat (first | exact z0L | (apply z0J;focus exact rfl) | exact z0K)))));(focus assumption);exact rfl;(focus assumption)) | ((with_reducible apply z3Q);(focus (first | exact ev_c | (apply ev_t;(repeat (first | exact z0L | (apply z0J;focus exact rfl) | exact z0K)))));(focus assumption);exact rfl;(focus assumption)) | ((with_reducible apply z2L);exact rfl;exact rfl) | ((with_reducible apply z2M);exact rfl) | ((with_reducible apply z4P);exact rfl;exact rfl) | ((with_reducible apply z4W);exact rfl;exact rfl) | ((with_reducible apply z3C);exact rfl;exact rfl) | ((with_reducible apply z2B);exact rfl;exact rfl) | ((with_reducible apply z4T);exact rfl;exact rfl) | ((with_reducible apply z4Q);exact rfl;exact rfl) | ((with_reducible apply z4U);exact rfl;exact rfl) | ((with_reducible apply z4M);exact rfl;exact rfl) | ((with_reducible apply z4V);exact rfl;exact rfl) | ((with_reducible apply z4L);exact rfl;exact rfl) | ((with_reducible apply z4N);exact rfl;exact rfl) | ((with_reducible apply z4S);exact rfl;exact rfl) | ((with_reducible apply z4K);exact rfl) | ((with_reducible apply z2P);exact rfl;exact rfl) | ((with_reducible apply z2X);exact rfl;exact rfl) | ((with_reducible apply z4B);(focus (first | exact ev_c | (apply ev_t;(repeat (first | exact z0L | (apply z0J;focus exact rfl) | exact z0K)))));(focus assumption)) | ((with_reducible apply z3Z);(focus (first | exact ev_c | (apply ev_t;(repeat (first | exact z0L | (apply z0J;focus exact rfl) | exact z0K)))));(focus assumption);exact rfl;(focus assumption)) | ((with_reducible apply z2N);exact rfl;exact rfl;(focus assumption)) | ((with_reducible apply z1J);exact rfl;exact rfl;exact rfl;exact rfl;exact rfl;(focus (first | exact rfl | exact z1C));exact rfl) | ((with_reducible apply z2K);exact rfl;exact rfl;exact rfl) | ((with_reducible apply z3B);exact rfl;(focus (first | assumption | exact z0H (by assumption)));exact rfl) | ((with_reducible apply z1Z);exact rfl;exact rfl) | ((with_reducible apply z1X);exact rfl;(focus (first | exact ev_c | (apply ev_t;(repeat (first | exact z0L | (apply z0J;focus exact rfl) | exact z0K)))));exact rfl;exact rfl;exact rfl;exact rfl) | ((with_reducible apply z2W);exact rfl;exact rfl;exact rfl) | ((with_reducible apply z1T);exact rfl;(focus (first | assumption | exact z0H (by assumption)));exact rfl) | ((with_reducible apply z4C);(focus (first | exact ev_c | (apply ev_t;(repeat (first | exact z0L | (apply z0J;focus exact rfl) | exact z0K)))));exact rfl;exact rfl;exact rfl) | ((with_reducible apply z1M);exact rfl) | ((with_reducible apply z2S);exact rfl) | ((with_reducible apply z2E);exact rfl;exact rfl;(focus (first | decide | omega))) | ((with_reducible apply z4R);exact rfl;(focus omega)) | ((with_reducible apply vt_q);exact rfl;exact rfl;(focus (first | exact hr_d | exact hr_l rfl | exact hr_l (hokp _)))) | (with_reducible apply st_finT) | ((with_reducible apply vt_end);focus (repeat (first | exact kp_nil | ((with_reducible apply kp);focus (repeat (first | exact z0L | (apply z0J;focus exact rfl) | exact z0K)))))) | ((with_reducible apply st_updI (n:=1));exact rfl;exact rfl;exact rfl;exact rfl;exact rfl;exact rfl) | ((with_reducible apply st_lookI (n:=1));exact rfl;exact rfl;exact rfl;exact rfl;exact rfl) | ((with_reducible apply z0F);exact rfl;(focus exact hk _)) | with_reducible refine z5E pres1 ?_ | with_reducible exact vt_stop | with_reducible refine vt_or (vt_mk rfl ?_) ?_ | with_reducible refine vt_or (vt_b rfl rfl base1 ?_) ?_ | exact nx_n ⟨rfl,_,_,rfl⟩))
     ·rintro _ _ ⟨rfl,es,n,rfl⟩
      refine z0G ?_
      exact fr
    ·rw [show node 10 s [(x.op,body x)]=textE x 8++[63] from rfl]
     generalize textE x 8=wx at *
     refine walkN ?_
     refine wi_cut (fun al' H'=>al'=[(4,.str (wx++[63]))]∧∃ es n,H'=H++[.cells [.int .i64 10,.str s,lst nl [x]],.map es n]) ?_ ?_
     ·refine iw_drawR ?_
      (repeat (first | ((with_reducible apply z3A);focus (first | exact ev_c | (apply ev_t;(repeat (first | exact z0L | (apply z0J;focus exact rfl) | exact z0K))))) | ((with_reducible apply z4Z);exact rfl;exact rfl;(focus ((try simp only [List.length_append,List.length_cons,List.length_nil]);omega))) | ((with_reducible apply z3R);(focus (first | exact ev_c | (apply ev_t;(repeat (first | exact z0L | (apply z0J;focus exact rfl) | exact z0K)))));(focus assumption);exact rfl;(focus assumption)) | ((with_reducible apply z3Q);(focus (first | exact ev_c | (apply ev_t;(repeat (first | exact z0L | (apply z0J;focus exact rfl) | exact z0K)))));(focus assumption);exact rfl;(focus assumption)) | ((with_reducible apply z2L);exact rfl;exact rfl) | ((with_reducible apply z2M);exact rfl) | ((with_reducible apply z4P);exact rfl;exact rfl) | ((with_reducible apply z4W);exact rfl;exact rfl) | ((with_reducible apply z3C);exact rfl;exact rfl) | ((with_reducible apply z2B);exact rfl;exact rfl) | ((with_reducible apply z4T);exact rfl;exact rfl) | ((with_reducible apply z4Q);exact rfl;exact rfl) | ((with_reducible apply z4U);exact rfl;exact rfl) | ((with_reducible apply z4M);exact rfl;exact rfl) | ((with_reducible apply z4V);exact rfl;exact rfl) | ((with_reducible apply z4L);exact rfl;exact rfl) | ((with_reducible apply z4N);exact rfl;exact rfl) | ((with_reducible apply z4S);exact rfl;exact rfl) | ((with_reducible apply z4K);exact rfl) | ((with_reducible apply z2P);exact rfl;exact rfl) | ((with_reducible apply z2X);exact rfl;exact rfl) | ((with_reducible apply z4B);(focus (first | exact ev_c | (apply ev_t;(repeat (first | exact z0L | (apply z0J;focus exact rfl) | exact z0K)))));(focus assumption)) | ((with_reducible apply z3Z);(focus (first | exact ev_c | (apply ev_t;(repeat (first | exact z0L | (apply z0J;focus exact rfl) | exact z0K)))));(focus assumption);exact rfl;(focus assumption)) | ((with_reducible apply z2N);exact rfl;exact rfl;(focus assumption)) | ((with_reducible apply z1J);exact rfl;exact rfl;exact rfl;exact rfl;exact rfl;(focus (first | exact rfl | exact z1C));exact rfl) | ((with_reducible apply z2K);exact rfl;exact rfl;exact rfl) | ((with_reducible apply z3B);exact rfl;(focus (first | assumption | exact z0H (by assumption)));exact rfl) | ((with_reducible apply z1Z);exact rfl;exact rfl) | ((with_reducible apply z1X);exact rfl;(focus (first | exact ev_c | (apply ev_t;(repeat (first | exact z0L | (apply z0J;focus exact rfl) | exact z0K)))));exact rfl;exact rfl;exact rfl;exact rfl) | ((with_reducible apply z2W);exact rfl;exact rfl;exact rfl) | ((with_reducible apply z1T);exact rfl;(focus (first | assumption | exact z0H (by assumption)));exact rfl) | ((with_reducible apply z4C);(focus (first | exact ev_c | (apply ev_t;(repeat (first | exact z0L | (apply z0J;focus exact rfl) | exact z0K)))));exact rfl;exact rfl;exact rfl) | ((with_reducible apply z1M);exact rfl) | ((with_reducible apply z2S);exact rfl) | ((with_reducible apply z2E);exact rfl;exact rfl;(focus (first | decide | omega))) | ((with_reducible apply z4R);exact rfl;(focus omega)) | ((with_reducible apply vt_q);exact rfl;exact rfl;(focus (first | exact hr_d | exact hr_l rfl | exact hr_l (hokp _)))) | (with_reducible apply st_finT) | ((with_reducible apply vt_end);focus (repeat (first | exact kp_nil | ((with_reducible apply kp);focus (repeat (first | exact z0L | (apply z0J;focus exact rfl) | exact z0K)))))) | ((with_reducible apply st_updI (n:=1));exact rfl;exact rfl;exact rfl;exact rfl;exact rfl;exact rfl) | ((with_reducible apply st_lookI (n:=1));exact rfl;exact rfl;exact rfl;exact rfl;exact rfl) | ((with_reducible apply z0F);exact rfl;(focus exact hk _)) | with_reducible refine z5E pres1 ?_ | with_reducible exact vt_stop | with_reducible refine vt_or (vt_mk rfl ?_) ?_ | with_reducible refine vt_or (vt_b rfl rfl base1 ?_) ?_ | exact nx_n ⟨rfl,_,_,rfl⟩))
     ·rintro _ _ ⟨rfl,es,n,rfl⟩
      refine z0G ?_
      exact fr
  ·have ks:=ks (by omega)
   rw [show node op s (bodies l)=sign0 op s by unfold node;rw [if_neg (by omega),if_neg (by omega),if_neg (by omega),if_neg (by omega),if_neg (by omega),if_neg (by omega),if_neg (by omega),if_neg (by omega),if_neg (by omega),if_neg (by omega),if_neg (by omega),if_neg (by omega)]]
   rcases h1 with rfl | rfl | rfl | rfl
   all_goals
    refine z0G ?_
    refine z0F rfl (ks _) ?_
    refine z0G ?_
    exact fr
termination_by SizeOf.sizeOf e
decreasing_by exact mem_size (by assumption)
end Go.Ab
