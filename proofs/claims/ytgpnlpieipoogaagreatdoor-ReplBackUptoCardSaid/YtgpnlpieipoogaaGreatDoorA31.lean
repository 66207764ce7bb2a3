/- Part 31 of the proof. -/
import Derived.Test.YtgpnlpieipoogaaGreatDoorA26
import Derived.Test.YtgpnlpieipoogaaGreatDoorA30
set_option linter.unusedVariables false
set_option linter.unusedSimpArgs false
namespace Go.Ab
open Go
set_option maxRecDepth 100000
set_option maxHeartbeats 8000000
section steps
variable {P:Program} {H G:Heap} {al:AL} {K:KL} {Qp:AL→AV→Heap→Prop} {os:List IOper} {d:Nat} {x y:Arg}
theorem st_appG {sz bytes id off k m:Nat} {cs ys:List AV} (hx:evL al x=.sl id off k sz) (hg:H[id]? =some (.cells cs)) (hc:off+k*sz≤cs.length)
  (hy:srcOf sz H (evL al y)=some (m,ys)) (hs:ys.all AV.scalar=true) (hb:(k+m)*bytes≤140737488355328)
  (h:VV P os ((d,.sl H.length 0 (k+m) sz)::al) (H.set id .dead++[.cells ((cs.drop off).take (k*sz)++ys)]) K Qp) :
  VV P (⟨some d,.i (.m (.append sz bytes)),[x,y],none,none⟩::os) al H K Qp:=by
 refine st_i ?_ h
 have h0:srcOf sz H (.sl id off k sz)=some (k,(cs.drop off).take (k*sz)):=by
  simp only [srcOf,if_true,hg];rw [if_pos hc]
 simp only [isem,msem,evsL,hx,eappend,hy,h0,hs,Bool.true_and]
 rw [if_pos (by simpa using hb)]
 unfold put;rw [if_neg (by simp)]
theorem st_app0G {sz bytes m:Nat} {ys:List AV} (hx:evL al x=.nilslice) (hy:srcOf sz H (evL al y)=some (m,ys)) (hm:0<m) (hs:ys.all AV.scalar=true) (hb:m*bytes≤140737488355328)
  (h:VV P os ((d,.sl H.length 0 m sz)::al) (H++[.cells ys]) K Qp):VV P (⟨some d,.i (.m (.append sz bytes)),[x,y],none,none⟩::os) al H K Qp:=by
 refine st_i ?_ h
 have h0:srcOf sz H .nilslice=some (0,[]):=rfl
 simp only [isem,msem,evsL,hx,eappend,hy,h0,hs,Bool.true_and,Nat.zero_add]
 rw [if_pos (by simpa using hb),if_neg (by omega)]
 unfold put;rw [if_neg (by omega)]
theorem z0V {len sz:Nat} {zs:List AV} {ps:List (Nat × Nat)} {as_:List Arg} {out:List AV} (hf:fillA (if len*sz=0 then [] else copies len zs) ps (evsL al as_)=some out)
  (h:VV P os ((d,.sl H.length 0 len sz)::al) (H++[.cells out]) K Qp):VV P (⟨some d,.i (.m (.buildSlice len sz zs ps)),as_,none,none⟩::os) al H K Qp:=by
 refine st_i ?_ h
 simp only [isem,msem,hf]
 unfold put;rw [if_neg (by omega)]
theorem srcOf_last {sz m:Nat} {cs:List AV} (h:cs.length=m*sz):srcOf sz (H++[.cells cs]) (.sl H.length 0 m sz)=some (m,cs):=by
 simp only [srcOf,if_true]
 rw [List.getElem?_append_right (Nat.le_refl _),Nat.sub_self]
 simp only [List.getElem?_cons_zero]
 rw [if_pos (by omega),List.drop_zero,←h,List.take_length]
end steps
theorem Ext.set {H H':Heap} {id:Nat} {b:Blk} (h:Ext H H') (hid:H.length≤id):Ext H (H'.set id b):=by
 obtain ⟨G,rfl⟩:=h;exact ⟨G.set (id-H.length) b,by rw [List.set_append_right _ _ hid]⟩
theorem z0A {H:Heap} {a b:Nat} {x y:Blk} (h:H[a]? =some x) (hne:a≠b):(H.set b y)[a]? =some x:=by
 rw [List.getElem?_set,if_neg (fun e=>hne e.symm)];exact h
theorem z0C {H:Heap} {a:Nat} {x y:Blk} (h:H[a]? =some x):(H.set a y)[a]? =some y:=by
 rw [List.getElem?_set,if_pos rfl,if_pos (List.getElem?_eq_some_iff.1 h).1]
theorem plain_ans (w:Wd) (e:Int):Plain (.tuple [encW w,.int .i64 e]):=Plain.tuple fun x hx=>by
 rcases List.mem_cons.1 hx with rfl | hx
 ·exact plain_W w
 ·rw [List.mem_singleton.1 hx];exact Plain.int _ _
def OwnS (H H':Heap) (v:AV) (l:List (List UInt8)):Prop :=
 Ext H H'∧((l=[]∧v=.nilslice)∨∃ id,v=.sl id 0 l.length 1∧H'[id]? =some (.cells (l.map .str))∧H.length≤id∧l≠[])
theorem OwnS.nil {H H':Heap} (h:Ext H H'):OwnS H H' .nilslice []:=⟨h,.inl ⟨rfl,rfl⟩⟩
theorem OwnS.app {H H':Heap} {v:AV} {l:List (List UInt8)} (h:OwnS H H' v l) (G:Heap):OwnS H (H'++G) v l:=by
 obtain ⟨h1,h2⟩:=h
 refine ⟨h1.app G,?_⟩
 rcases h2 with h2 | ⟨id,a,b,c,d⟩
 ·exact .inl h2
 ·exact .inr ⟨id,a,z0H b,c,d⟩
theorem Ext.get {H H':Heap} (h:Ext H H') {j:Nat} {b:Blk} (hg:H[j]? =some b):H'[j]? =some b:=by obtain ⟨G,rfl⟩:=h;exact z0H hg
theorem Ext.len {H H':Heap} (h:Ext H H'):H.length≤H'.length:=by obtain ⟨G,rfl⟩:=h;simp
theorem Ext.base {H G H':Heap} (h:Ext (H++G) H'):Ext H H':=by obtain ⟨G',rfl⟩:=h;exact ⟨G++G',by rw [List.append_assoc]⟩
theorem OwnS.ends {H G H':Heap} {v:AV} {l:List (List UInt8)} (h:OwnS (H++G) H' v l):Gives H (encW ⟨true,l⟩) (.ret v) H':=by
 obtain ⟨h1,h2⟩:=h
 rcases h2 with ⟨rfl,rfl⟩ | ⟨id,rfl,h3,h4,h5⟩
 ·exact z0M h1.base (plain_W ⟨true,[]⟩)
 ·have he:encW ⟨true,l⟩=.list 1 (l.map .str):=by
   unfold encW
   rw [if_neg]
   intro h
   simp only [Bool.and_eq_true,List.isEmpty_iff] at h
   exact h5 h.2
  obtain ⟨G',hG⟩:=h1.base.set (id:=id) (b:=.dead) (by rw [List.length_append] at h4;omega)
  exact ⟨_,G',rfl,.step id _ h3 (sealStrs id l) (by rw [hG,he];exact .done _ _),plain_W _⟩
section steps
variable {P:Program} {H G:Heap} {al:AL} {K:KL} {Qp:AL→AV→Heap→Prop} {os:List IOper} {d:Nat} {x y:Arg}
theorem z3S {H0:Heap} {v:AV} {l ys:List (List UInt8)} (hx:evL al x=v) (ho:OwnS H0 H v l) (hy:srcOf 1 H (evL al y)=some (ys.length,ys.map .str)) (hb:l.length+ys.length≤1000000000)
  (h:∀ v' H',OwnS H0 H' v' (l++ys)→VV P os ((d,v')::al) H' K Qp):VV P (⟨some d,.i (.m (.append 1 16)),[x,y],none,none⟩::os) al H K Qp:=by
 obtain ⟨h1,h2⟩:=ho
 rcases h2 with ⟨rfl,rfl⟩ | ⟨id,rfl,h3,h4,h5⟩
 ·cases ys with
  | nil=>exact st_app00 (ys:=[]) hx hy rfl (h _ _ ⟨h1,.inl ⟨rfl,rfl⟩⟩)
  | cons s ys =>
   refine st_app0G hx hy (by simp) (all_strs _) (by simp at hb ⊢;omega) (h _ _ ⟨h1.app _,.inr ⟨_,rfl,?_,h1.len,by simp⟩⟩)
   rw [List.getElem?_append_right (Nat.le_refl _),Nat.sub_self];rfl
 ·refine st_appG hx h3 (by simp) hy (all_strs _) (by omega) (h _ _ ⟨(h1.set h4).app _,.inr ⟨_,by rw [List.length_append],?_,h1.len,by simp [h5]⟩⟩)
  rw [List.getElem?_append_right (by simp)]
  simp
  exact List.take_of_length_le (by simp)
theorem srcOf_strs (l:List (List UInt8)):srcOf 1 H (.list 1 (l.map .str))=some (l.length,l.map .str):=by
 simp only [srcOf,if_true,List.length_map,flat_strs]
end steps
def okRd (b0:Nat):AV→Bool
 | .ptr j _=>Nat.blt j b0
 | _=>true
structure VT (P:Program) (b0 base:Nat) (ios:List IOper) (B:List (List Nat)) (K:KL) (G:AV→Prop) (s:Sched) (al:AL) (H:Heap):Prop where
 h:∀ S:List Rd,(∀ r∈S,okRd b0 r.x=true∧rload r.n r.x H=some r.v)→vsL P base ios B K G s S al H
section vt
variable {P:Program} {H:Heap} {al:AL} {Q:PL} {K:KL} {b0 base:Nat} {ios:List IOper} {B:List (List Nat)} {Gp:AV→Prop} {s:Sched}
theorem vt_q {i:Nat} {o:IOper} (ho:ios[i]? =some o) (hq:isQuiet o=true) (hr:∀ v n x,quietValL o al H=some (v,some (n,x))→okRd b0 x=true)
  (h:VV P [o] al H (fun al' _=>VT P b0 base ios B K Gp s al' H) (fun _ _ _=>False)):VT P b0 base ios B K Gp (.quiet i s) al H:=by
 refine ⟨fun S hS=>?_⟩
 obtain ⟨v,rd,h1,h2⟩:=quiet_vop (K:=fun al' _=>VT P b0 base ios B K Gp s al' H) hq h.1
 simp only [vsL,ho,h1]
 refine h2.1 _ fun r hr'=>?_
 cases rd with
 | none=>exact hS r hr'
 | some q =>
  obtain ⟨n,u⟩:=q
  rcases List.mem_cons.1 hr' with rfl | hr'
  ·exact ⟨hr _ _ _ h1,quiet_rd h1⟩
  ·exact hS r hr'
theorem hr_d {d:Option Nat} {op:DOp} {as_:List Arg} {r:Option Nat}:∀ v n x,quietValL ⟨d,.i (.d op),as_,none,r⟩ al H=some (v,some (n,x))→okRd b0 x=true:=by
 intro v n x h
 simp only [quietValL,quietExecL] at h
 split at h
 ·injection h with h;injection h with _ h;cases h
 ·cases h
theorem hr_l {d:Option Nat} {k:Option Nat} {a:Arg} {r:Option Nat} (hok:okRd b0 (evL al a)=true):∀ v n x,quietValL ⟨d,.i (.m (.load k)),[a],none,r⟩ al H=some (v,some (n,x))→okRd b0 x=true:=by
 intro v n x h
 simp only [quietValL,quietExecL,evsL] at h
 split at h
 ·injection h with h;injection h with _ h;injection h with h;injection h with _ h;subst h;exact hok
 ·cases h
theorem vt_b {i:Nat} {o:IOper} (ho:ios[i]? =some o) (hr:o.res=none) (hb:base≤H.length)
  (h:VV P [o] al H (fun al' H'=>(∀ n x v,okRd b0 x=true→rload n x H=some v→rload n x H'=some v)∧VT P b0 base ios B K Gp s al' H') (fun _ v _=>Gp v)) :
  VT P b0 base ios B K Gp (.branch i s .stop) al H:=by
 refine ⟨fun S hS=>?_⟩
 have hrr:rOf base o H=H.length:=by simp [rOf,hr]
 simp only [vsL,ho,hrr]
 refine ⟨⟨?_,Nat.ble_eq_true_of_le hb,?_⟩,trivial⟩
 ·simp [freeB]
 ·refine iw_cut.vopL_mono h.1 ?_ (fun _ _ _ q=>q)
  rintro al' H' ⟨hpres,q⟩
  have hS':∀ r∈S,okRd b0 r.x=true∧rload r.n r.x H'=some r.v:=fun r hr=>⟨(hS r hr).1,hpres _ _ _ (hS r hr).1 (hS r hr).2⟩
  refine ⟨?_,q.1 S hS'⟩
  unfold obligL
  rw [ho]
  simp only
  split
  ·trivial
  ·exact fun r hr _=>(hS' r hr).2
theorem vt_end {ks:List Nat} {al':AL} (hk:keepL al ks=al') (h:Q .normal al' H):VT P b0 base ios B (fun a h=>Q .normal (keepL a ks) h) Gp .done al H:=⟨fun _ _=>by subst hk;exact h⟩
theorem iw_drawT {ks:List Nat} (b0:Nat) (h:VT P b0 H.length ios B (fun a h=>Q .normal (keepL a ks) h) (fun _=>False) s al H):WI P (.draw 0 ios B s (some ks)) Q al H:=by
 refine ⟨⟨fun _=>False,fun _ _ f=>f.elim,?_⟩⟩
 have:reserve H 0=H:=by simp [reserve]
 rw [this]
 exact h.1 [] (by simp)
theorem st_finT {H':Heap} {Qp:AL→AV→Heap→Prop} (h:VT P b0 base ios B K Gp s al H'):VV P [] al H (fun a _=>VT P b0 base ios B K Gp s a H') Qp:=⟨h⟩
theorem z5E {H':Heap} {Qp:AL→AV→Heap→Prop} (hp:∀ n x v,okRd b0 x=true→rload n x H'=some v→rload n x H=some v) (h:VT P b0 base ios B K Gp s al H) :
  VV P [] al H (fun a h=>(∀ n x v,okRd b0 x=true→rload n x H'=some v→rload n x h=some v)∧VT P b0 base ios B K Gp s a h) Qp:=⟨⟨hp,h⟩⟩
theorem ext_rd {H0 H H':Heap} (h:Ext H0 H) (h':Ext H0 H'):∀ n x v,okRd H0.length x=true→rload n x H=some v→rload n x H'=some v:=by
 intro n x v ho hl
 obtain ⟨G,rfl⟩:=h
 obtain ⟨G',rfl⟩:=h'
 cases x with
 | ptr j off =>
  have hj:j<H0.length:=by simpa [okRd,Nat.blt_eq] using ho
  simp only [rload,List.getElem?_append_left hj] at hl ⊢
  exact hl
 | _=>exact hl
end vt
section steps
variable {P:Program} {H:Heap} {al:AL} {K:KL} {Qp:AL→AV→Heap→Prop} {os:List IOper} {d:Nat} {x y:Arg}
end steps
theorem walkT {g n:Prop} (k:n) (h:Hide n→g:=by (intro k);(repeat (first | ((with_reducible apply z3A);focus (first | exact ev_c | (apply ev_t;(repeat (first | exact z0L | (apply z0J;focus exact rfl) | exact z0K))))) | ((with_reducible apply z3R);(focus (first | exact ev_c | (apply ev_t;(repeat (first | exact z0L | (apply z0J;focus exact rfl) | exact z0K)))));(focus assumption);exact rfl;(focus assumption)) | ((with_reducible apply z3Q);(focus (first | exact ev_c | (apply ev_t;(repeat (first | exact z0L | (apply z0J;focus exact rfl) | exact z0K)))));(focus assumption);exact rfl;(focus assumption)) | ((with_reducible apply z2L);exact rfl;exact rfl) | ((with_reducible apply z2M);exact rfl) | ((with_reducible apply z4P);exact rfl;exact rfl) | ((with_reducible apply z4W);exact rfl;exact rfl) | ((with_reducible apply z3C);exact rfl;exact rfl) | ((with_reducible apply z2B);exact rfl;exact rfl) | ((with_reducible apply z4T);exact rfl;exact rfl) | ((with_reducible apply z4Q);exact rfl;exact rfl) | ((with_reducible apply z4U);exact rfl;exact rfl) | ((with_reducible apply z4M);exact rfl;exact rfl) | ((with_reducible apply z4V);exact rfl;exact rfl) | ((with_reducible apply z4L);exact rfl;exact rfl) | ((with_reducible apply z4N);exact rfl;exact rfl) | ((with_reducible apply z4S);exact rfl;exact rfl) | ((with_reducible apply z4K);exact rfl) | ((with_reducible apply z2P);exact rfl;exact rfl) | ((with_reducible apply z2X);exact rfl;exact rfl) | ((with_reducible apply z4B);(focus (first | exact ev_c | (apply ev_t;(repeat (first | exact z0L | (apply z0J;focus exact rfl) | exact z0K)))));(focus assumption)) | ((with_reducible apply z3Z);(focus (first | exact ev_c | (apply ev_t;(repeat (first | exact z0L | (apply z0J;focus exact rfl) | exact z0K)))));(focus assumption);exact rfl;(focus assumption)) | ((with_reducible apply z2N);exact rfl;exact rfl;(focus assumption)) | ((with_reducible apply z1J);exact rfl;exact rfl;exact rfl;exact rfl;exact rfl;(focus (first | exact rfl | exact z1C));exact rfl) | ((with_reducible apply z2K);exact rfl;exact rfl;exact rfl) | ((with_reducible apply z3B);exact rfl;(focus (first | assumption | exact z0H (by assumption)));exact rfl) | ((with_reducible apply z1Z);exact rfl;exact rfl) | ((with_reducible apply z1X);exact rfl;(focus (first | exact ev_c | (apply ev_t;(repeat (first | exact z0L | (apply z0J;focus exact rfl) | exact z0K)))));exact rfl;exact rfl;exact rfl;exact rfl) | ((with_reducible apply z2W);exact rfl;exact rfl;exact rfl) | ((with_reducible apply z1T);exact rfl;(focus (first | assumption | exact z0H (by assumption)));exact rfl) | ((with_reducible apply z4C);(focus (first | exact ev_c | (apply ev_t;(repeat (first | exact z0L | (apply z0J;focus exact rfl) | exact z0K)))));exact rfl;exact rfl;exact rfl) | ((with_reducible apply z1M);exact rfl) | ((with_reducible apply z2S);exact rfl) | ((with_reducible apply z2E);exact rfl;exact rfl;(focus (first | decide | omega))) | ((with_reducible apply z4R);exact rfl;(focus omega)) | ((with_reducible apply vt_q);exact rfl;exact rfl;(focus (first | exact hr_d | exact hr_l rfl | exact hr_l (hokp _)))) | (with_reducible apply st_finT) | ((with_reducible apply vt_end);focus (repeat (first | exact kp_nil | ((with_reducible apply kp);focus (repeat (first | exact z0L | (apply z0J;focus exact rfl) | exact z0K))))))));(exact k.h)):g:=h ⟨k⟩
theorem walkN {g n:Prop} (k:n) (h:Hide n→g:=by (intro k);(repeat (first | ((with_reducible apply z3A);focus (first | exact ev_c | (apply ev_t;(repeat (first | exact z0L | (apply z0J;focus exact rfl) | exact z0K))))) | ((with_reducible apply z3R);(focus (first | exact ev_c | (apply ev_t;(repeat (first | exact z0L | (apply z0J;focus exact rfl) | exact z0K)))));(focus assumption);exact rfl;(focus assumption)) | ((with_reducible apply z3Q);(focus (first | exact ev_c | (apply ev_t;(repeat (first | exact z0L | (apply z0J;focus exact rfl) | exact z0K)))));(focus assumption);exact rfl;(focus assumption)) | ((with_reducible apply z2L);exact rfl;exact rfl) | ((with_reducible apply z2M);exact rfl) | ((with_reducible apply z4P);exact rfl;exact rfl) | ((with_reducible apply z4W);exact rfl;exact rfl) | ((with_reducible apply z3C);exact rfl;exact rfl) | ((with_reducible apply z2B);exact rfl;exact rfl) | ((with_reducible apply z4T);exact rfl;exact rfl) | ((with_reducible apply z4Q);exact rfl;exact rfl) | ((with_reducible apply z4U);exact rfl;exact rfl) | ((with_reducible apply z4M);exact rfl;exact rfl) | ((with_reducible apply z4V);exact rfl;exact rfl) | ((with_reducible apply z4L);exact rfl;exact rfl) | ((with_reducible apply z4N);exact rfl;exact rfl) | ((with_reducible apply z4S);exact rfl;exact rfl) | ((with_reducible apply z4K);exact rfl) | ((with_reducible apply z2P);exact rfl;exact rfl) | ((with_reducible apply z2X);exact rfl;exact rfl) | ((with_reducible apply z4B);(focus (first | exact ev_c | (apply ev_t;(repeat (first | exact z0L | (apply z0J;focus exact rfl) | exact z0K)))));(focus assumption)) | ((with_reducible apply z3Z);(focus (first | exact ev_c | (apply ev_t;(repeat (first | exact z0L | (apply z0J;focus exact rfl) | exact z0K)))));(focus assumption);exact rfl;(focus assumption)) | ((with_reducible apply z2N);exact rfl;exact rfl;(focus assumption)) | ((with_reducible apply z1J);exact rfl;exact rfl;exact rfl;exact rfl;exact rfl;(focus (first | exact rfl | exact z1C));exact rfl) | ((with_reducible apply z2K);exact rfl;exact rfl;exact rfl) | ((with_reducible apply z3B);exact rfl;(focus (first | assumption | exact z0H (by assumption)));exact rfl) | ((with_reducible apply z1Z);exact rfl;exact rfl) | ((with_reducible apply z1X);exact rfl;(focus (first | exact ev_c | (apply ev_t;(repeat (first | exact z0L | (apply z0J;focus exact rfl) | exact z0K)))));exact rfl;exact rfl;exact rfl;exact rfl) | ((with_reducible apply z2W);exact rfl;exact rfl;exact rfl) | ((with_reducible apply z1T);exact rfl;(focus (first | assumption | exact z0H (by assumption)));exact rfl) | ((with_reducible apply z4C);(focus (first | exact ev_c | (apply ev_t;(repeat (first | exact z0L | (apply z0J;focus exact rfl) | exact z0K)))));exact rfl;exact rfl;exact rfl) | ((with_reducible apply z1M);exact rfl) | ((with_reducible apply z2S);exact rfl) | ((with_reducible apply z2E);exact rfl;exact rfl;(focus (first | decide | omega))) | ((with_reducible apply z4R);exact rfl;(focus omega)) | ((with_reducible apply z3T);focus (repeat (first | exact kp_nil | ((with_reducible apply kp);focus (repeat (first | exact z0L | (apply z0J;focus exact rfl) | exact z0K)))))) | ((with_reducible apply vs_end);focus (repeat (first | exact kp_nil | ((with_reducible apply kp);focus (repeat (first | exact z0L | (apply z0J;focus exact rfl) | exact z0K)))))) | ((with_reducible apply vs_q);exact rfl;exact rfl) | ((with_reducible apply vs_b);exact rfl;exact rfl;(focus exact Nat.le_refl _)) | ((with_reducible apply z5L)) | (with_reducible apply z5K) | ((with_reducible apply z4E);(focus (first | exact rfl | exact congrArg AV.bool (by assumption)));(focus (first | exact ev_c | (apply ev_t;(repeat (first | exact z0L | (apply z0J;focus exact rfl) | exact z0K)))))) | ((with_reducible apply z4F);(focus (first | exact rfl | exact congrArg AV.bool (by assumption)));(focus (first | exact ev_c | (apply ev_t;(repeat (first | exact z0L | (apply z0J;focus exact rfl) | exact z0K)))))) | ((with_reducible apply st_yes);(focus (first | exact rfl | exact congrArg AV.bool (by assumption)))) | ((with_reducible apply st_noT);(focus (first | exact rfl | exact congrArg AV.bool (by assumption)))) | ((with_reducible apply st_noF);(focus (first | exact rfl | exact congrArg AV.bool (by assumption)))) | ((with_reducible apply st_no');exact rfl) | with_reducible refine z2V ?_ | with_reducible refine z1N ?_ | with_reducible refine nx_n ?_ | with_reducible refine z3V ?_ | with_reducible refine z4J ?_ | with_reducible refine iw_ret ?_ | with_reducible refine z5N ?_ | with_reducible refine nx_x ?_ | with_reducible refine nx_r ?_ | with_reducible refine bk_n ?_ | with_reducible refine bk_r ?_ | with_reducible refine bk_x ?_ | with_reducible refine bk_y rfl ?_ | ((with_reducible apply z5Q);(focus (first | exact rfl | exact congrArg AV.bool (by assumption)))) | ((with_reducible apply iw_no);(focus (first | exact rfl | exact congrArg AV.bool (by assumption)))) | refine z2V ?_));(exact k.h)):g:=h ⟨k⟩
abbrev Bt:=List UInt8
theorem z3L {g n:Prop} (k:n) (h:Hide n→g:=by (intro k);(repeat (first | ((with_reducible apply z3A);focus (first | exact ev_c | (apply ev_t;(repeat (first | exact z0L | (apply z0J;focus exact rfl) | exact z0K))))) | ((with_reducible apply z4Z);exact rfl;exact rfl;(focus ((try simp only [List.length_append,List.length_cons,List.length_nil]);omega))) | ((with_reducible apply z3R);(focus (first | exact ev_c | (apply ev_t;(repeat (first | exact z0L | (apply z0J;focus exact rfl) | exact z0K)))));(focus assumption);exact rfl;(focus assumption)) | ((with_reducible apply z3Q);(focus (first | exact ev_c | (apply ev_t;(repeat (first | exact z0L | (apply z0J;focus exact rfl) | exact z0K)))));(focus assumption);exact rfl;(focus assumption)) | ((with_reducible apply z2L);exact rfl;exact rfl) | ((with_reducible apply z2M);exact rfl) | ((with_reducible apply z4P);exact rfl;exact rfl) | ((with_reducible apply z4W);exact rfl;exact rfl) | ((with_reducible apply z3C);exact rfl;exact rfl) | ((with_reducible apply z2B);exact rfl;exact rfl) | ((with_reducible apply z4T);exact rfl;exact rfl) | ((with_reducible apply z4Q);exact rfl;exact rfl) | ((with_reducible apply z4U);exact rfl;exact rfl) | ((with_reducible apply z4M);exact rfl;exact rfl) | ((with_reducible apply z4V);exact rfl;exact rfl) | ((with_reducible apply z4L);exact rfl;exact rfl) | ((with_reducible apply z4N);exact rfl;exact rfl) | ((with_reducible apply z4S);exact rfl;exact rfl) | ((with_reducible apply z4K);exact rfl) | ((with_reducible apply z2P);exact rfl;exact rfl) | ((with_reducible apply z2X);exact rfl;exact rfl) | ((with_reducible apply z4B);(focus (first | exact ev_c | (apply ev_t;(repeat (first | exact z0L | (apply z0J;focus exact rfl) | exact z0K)))));(focus assumption)) | ((with_reducible apply z3Z);(focus (first | exact ev_c | (apply ev_t;(repeat (first | exact z0L | (apply z0J;focus exact rfl) | exact z0K)))));(focus assumption);exact rfl;(focus assumption)) | ((with_reducible apply z2N);exact rfl;exact rfl;(focus assumption)) | ((with_reducible apply z1J);exact rfl;exact rfl;exact rfl;exact rfl;exact rfl;(focus (first | exact rfl | exact z1C));exact rfl) | ((with_reducible apply z2K);exact rfl;exact rfl;exact rfl) | ((with_reducible apply z3B);exact rfl;(focus (first | assumption | exact z0H (by assumption)));exact rfl) | ((with_reducible apply z1Z);exact rfl;exact rfl) | ((with_reducible apply z1X);exact rfl;(focus (first | exact ev_c | (apply ev_t;(repeat (first | exact z0L | (apply z0J;focus exact rfl) | exact z0K)))));exact rfl;exact rfl;exact rfl;exact rfl) | ((with_reducible apply z2W);exact rfl;exact rfl;exact rfl) | ((with_reducible apply z1T);exact rfl;(focus (first | assumption | exact z0H (by assumption)));exact rfl) | ((with_reducible apply z4C);(focus (first | exact ev_c | (apply ev_t;(repeat (first | exact z0L | (apply z0J;focus exact rfl) | exact z0K)))));exact rfl;exact rfl;exact rfl) | ((with_reducible apply z1M);exact rfl) | ((with_reducible apply z2S);exact rfl) | ((with_reducible apply z2E);exact rfl;exact rfl;(focus (first | decide | omega))) | ((with_reducible apply z4R);exact rfl;(focus omega)) | ((with_reducible apply z3T);focus (repeat (first | exact kp_nil | ((with_reducible apply kp);focus (repeat (first | exact z0L | (apply z0J;focus exact rfl) | exact z0K)))))) | ((with_reducible apply vs_end);focus (repeat (first | exact kp_nil | ((with_reducible apply kp);focus (repeat (first | exact z0L | (apply z0J;focus exact rfl) | exact z0K)))))) | ((with_reducible apply vs_q);exact rfl;exact rfl) | ((with_reducible apply vs_b);exact rfl;exact rfl;(focus exact Nat.le_refl _)) | ((with_reducible apply z5L)) | (with_reducible apply z5K) | ((with_reducible apply z4E);(focus (first | exact rfl | exact congrArg AV.bool (by assumption)));(focus (first | exact ev_c | (apply ev_t;(repeat (first | exact z0L | (apply z0J;focus exact rfl) | exact z0K)))))) | ((with_reducible apply z4F);(focus (first | exact rfl | exact congrArg AV.bool (by assumption)));(focus (first | exact ev_c | (apply ev_t;(repeat (first | exact z0L | (apply z0J;focus exact rfl) | exact z0K)))))) | ((with_reducible apply st_yes);(focus (first | exact rfl | exact congrArg AV.bool (by assumption)))) | ((with_reducible apply st_noT);(focus (first | exact rfl | exact congrArg AV.bool (by assumption)))) | ((with_reducible apply st_noF);(focus (first | exact rfl | exact congrArg AV.bool (by assumption)))) | ((with_reducible apply st_no');exact rfl) | with_reducible refine z2V ?_ | with_reducible refine z1N ?_ | with_reducible refine nx_n ?_ | with_reducible refine z3V ?_ | with_reducible refine z4J ?_ | with_reducible refine iw_ret ?_ | with_reducible refine z5N ?_ | with_reducible refine nx_x ?_ | with_reducible refine nx_r ?_ | with_reducible refine bk_n ?_ | with_reducible refine bk_r ?_ | with_reducible refine bk_x ?_ | with_reducible refine bk_y rfl ?_ | ((with_reducible apply z5Q);(focus (first | exact rfl | exact congrArg AV.bool (by assumption)))) | ((with_reducible apply iw_no);(focus (first | exact rfl | exact congrArg AV.bool (by assumption)))) | refine z2V ?_ | refine iw_drawq rfl rfl ?_ | with_reducible refine iw_drawS ?_));(exact k.h)):g:=h ⟨k⟩
def arrowS (k:Int):Bt:=if k=1 then [40,45,62,41] else if k=2 then [64,45,62] else if k=3 then [64,62] else [45,62]
theorem c31 (k:Int) (H:Heap):ACall PP 14 [.int .i64 k] H (Just H (.str (arrowS k))):=by
 refine ACall.gives (is14.c1 z0W mixed rfl ?_)
 by_cases h1:k=1
 ·subst h1;refine z0G ?_;exact fr
 by_cases h2:k=2
 ·subst h2;refine z0G ?_;exact fr
 by_cases h3:k=3
 ·subst h3;refine z0G ?_;exact fr
 rw [show arrowS k=[45,62] by simp [arrowS,h1,h2,h3]]
 have e1:(k==1)=false:=by simpa using h1
 have e2:(k==2)=false:=by simpa using h2
 have e3:(k==3)=false:=by simpa using h3
 refine z0G ?_
 exact fr
def isAl (c:UInt8):Bool:=(decide ((c.toNat:Int)≥97)&&decide ((c.toNat:Int)≤122))||(decide ((c.toNat:Int)≥65)&&decide ((c.toNat:Int)≤90))||(decide ((c.toNat:Int)≥48)&&decide ((c.toNat:Int)≤57))
theorem c250 (c:UInt8) (H:Heap):ACall PP 170 [.int .u8 c.toNat] H (Just H (.bool (isAl c))):=by
 refine ACall.gives (is170.c1 z0W mixed rfl ?_)
 unfold isAl
 refine z0G ?_
 cases h1:decide ((c.toNat:Int)≥97)
 ·refine z0G ?_
  cases h3:decide ((c.toNat:Int)≥65)
  ·refine z0G ?_
   cases h5:decide ((c.toNat:Int)≥48)
   ·refine z0G ?_;exact fr
   ·refine z0G ?_
    cases h6:decide ((c.toNat:Int)≤57)
    ·refine z0G ?_;exact fr
    ·refine z0G ?_;exact fr
  ·refine z0G ?_
   cases h4:decide ((c.toNat:Int)≤90)
   ·refine z0G ?_
    cases h5:decide ((c.toNat:Int)≥48)
    ·refine z0G ?_;exact fr
    ·refine z0G ?_
     cases h6:decide ((c.toNat:Int)≤57)
     ·refine z0G ?_;exact fr
     ·refine z0G ?_;exact fr
   ·refine z0G ?_;exact fr
 ·refine z0G ?_
  cases h2:decide ((c.toNat:Int)≤122)
  ·refine z0G ?_
   cases h3:decide ((c.toNat:Int)≥65)
   ·refine z0G ?_
    cases h5:decide ((c.toNat:Int)≥48)
    ·refine z0G ?_;exact fr
    ·refine z0G ?_
     cases h6:decide ((c.toNat:Int)≤57)
     ·refine z0G ?_;exact fr
     ·refine z0G ?_;exact fr
   ·refine z0G ?_
    cases h4:decide ((c.toNat:Int)≤90)
    ·refine z0G ?_
     cases h5:decide ((c.toNat:Int)≥48)
     ·refine z0G ?_;exact fr
     ·refine z0G ?_
      cases h6:decide ((c.toNat:Int)≤57)
      ·refine z0G ?_;exact fr
      ·refine z0G ?_;exact fr
    ·refine z0G ?_;exact fr
  ·refine z0G ?_;exact fr
def lvl (op:Int):Int:=if op=14 then 0 else if op=7 then 1 else if op=5 then 2 else if op=6 then 3 else if op=15 then 4 else if op=13 then 5 else if op=4 then 6 else if op=11 then 7 else if op=12 then 7 else
 if op=8 then 8 else if op=9 then 8 else if op=10 then 8 else 9
theorem c218 {op:Int} (ho:0≤op∧op≤15) (H:Heap):ACall PP 143 [.int .i64 op] H (Just H (.int .i64 (lvl op))):=by
 refine ACall.gives (is143.c1 z0W mixed rfl ?_)
 have:op=0∨op=1∨op=2∨op=3∨op=4∨op=5∨op=6∨op=7∨op=8∨op=9∨op=10∨op=11∨op=12∨op=13∨op=14∨op=15:=by omega
 rcases this with rfl | rfl | rfl | rfl | rfl | rfl | rfl | rfl | rfl | rfl | rfl | rfl | rfl | rfl | rfl | rfl<;>(refine z0G ?_;exact fr)
mutual
def nf:Ex→Nat
 | .mk _ s _ l=>nfs (1+s.length) l
def nfs:Nat→List Ex→Nat
 | n,[]=>n
 | n,x::xs=>if n≤24000 then nfs (n+nf x) xs else n
end
mutual
theorem nf_le:∀ e:Ex,nf e≤e.w
 | .mk _ s _ l=>by simp only [nf,Ex.w];exact nfs_le (1+s.length) l
theorem nfs_le:∀ (n:Nat) (l:List Ex),nfs n l≤n+ws l
 | n,[]=>by simp [nfs,ws]
 | n,x::xs=>by
  have:=nf_le x
  have:=nfs_le (n+nf x) xs
  simp only [nfs,ws];split<;>omega
end
theorem ws_take {l:List Ex} {i:Nat} {x:Ex} (h:l[i]? =some x):ws (l.take (i+1))=ws (l.take i)+x.w:=by
 induction l generalizing i with
 | nil=>simp at h
 | cons y ys ih =>
  cases i with
  | zero=>simp at h;subst h;simp [ws]
  | succ i=>simp only [List.take_succ_cons,ws];rw [ih (by simpa using h)];omega
theorem ws_le:∀ (l:List Ex) (i:Nat),ws (l.take i)≤ws l
 | [],i=>by simp
 | x::xs,0=>by simp [ws]
 | x::xs,i+1=>by simp only [List.take_succ_cons,ws];have:=ws_le xs i;omega
theorem c25 (e:Ex) (he:okE e) (H:Heap):ACall PP 10 [enc e] H (Just H (.int .i64 (nf e))):=by
 match e,he with
 | .mk op s nl l,he =>
  have hs:=sl_lst nl l
  have hl:(l.map enc).length=l.length:=List.length_map _
  have hll:=okE_l he
  have hw:1+s.length+ws l≤1000000000000:=by unfold okE at he;simp only [Ex.w] at he;omega
  have hn:nf (.mk op s nl l)=nfs (1+s.length) l:=rfl
  rw [z0U,hn]
  refine ACall.gives (is10.c1 z0W mixed rfl ?_)
  refine z0G ?_
  refine z2J (a:=1) (b:=s.length) (by rfl) (by rfl) (by omega) ?_
  refine z0G ?_
  refine z1B l.length (fun i al H'=>∃ n:Nat,al=[(1,.ptr (H.length+0) 0),(3,.int .i64 n),(4,.int .i64 i)]∧H'=H++[.cells [.int .i64 op,.str s,lst nl l]]∧n≤1+s.length+ws (l.take i)∧nfs (1+s.length) l=nfs n (l.drop i)) ⟨_,rfl,rfl,by omega,rfl⟩ ?_
  rintro i _ _ hi ⟨n,rfl,rfl,hnb,hv⟩
  have hwi:=ws_le l i
  refine z0G ?_
  cases hc:decide ((i:Int)<((l.map enc).length:Int))
  ·simp only [decide_eq_false_iff_not] at hc
   have:i=l.length:=by omega
   subst this
   rw [List.drop_length] at hv
   rw [hv]
   refine z0G ?_
   exact fr
  ·simp only [decide_eq_true_eq] at hc
   obtain ⟨c,hcg⟩:=z1E (l:=l) (i:=i) (by omega)
   have hu:=getmap (f:=enc) hcg
   have hm:=List.mem_of_getElem? hcg
   rw [z3K hcg] at hv
   simp only [nfs] at hv
   refine z0G ?_
   refine z0T _ rfl ?_ ?_<;>intro hq
   ·simp only [decide_eq_true_eq] at hq
    rw [if_pos (by omega)] at hv
    have ih:=fun H=>c25 c (okE_kid he hm) H
    have h1:=ws_take hcg
    have h2:=ws_le l (i+1)
    have h3:=nf_le c
    obtain ⟨op',s',nl',l'⟩:=c
    rw [z0U] at hu ih
    refine z0G ?_
    refine z0F rfl (ih _) ?_
    refine z2J (a:=n) (b:=nf (.mk op' s' nl' l')) (by rfl) (by rfl) (by omega) ?_
    refine z0G ?_
    exact ⟨by omega,_,rfl,rfl,by omega,hv⟩
   ·simp only [decide_eq_false_iff_not] at hq
    rw [if_neg (by omega)] at hv
    rw [hv]
    refine z0G ?_
    exact fr
termination_by SizeOf.sizeOf e
decreasing_by exact mem_size (by assumption)
def nw:Nat→List Bt→Nat
 | n,[]=>n
 | n,s::w=>if n≤24000 then nw (n+s.length) w else n
def tot:List Bt→Nat
 | []=>0
 | s::w=>s.length+tot w
theorem nw_le:∀ (n:Nat) (w:List Bt),nw n w≤n+tot w
 | n,[]=>by simp [nw]
 | n,x::xs=>by have:=nw_le (n+x.length) xs;simp only [nw,tot];split<;>omega
theorem tot_take {l:List Bt} {i:Nat} {x:Bt} (h:l[i]? =some x):tot (l.take (i+1))=tot (l.take i)+x.length:=by
 induction l generalizing i with
 | nil=>simp at h
 | cons y ys ih =>
  cases i with
  | zero=>simp at h;subst h;simp [tot]
  | succ i=>simp only [List.take_succ_cons,tot];rw [ih (by simpa using h)];omega
theorem tot_le:∀ (l:List Bt) (i:Nat),tot (l.take i)≤tot l
 | [],i=>by simp
 | x::xs,0=>by simp [tot]
 | x::xs,i+1=>by simp only [List.take_succ_cons,tot];have:=tot_le xs i;omega
def nww (n:Nat) (a:List Bt):Nat:=nw (n+a.length) a
abbrev okT (w:List Bt):Prop:=w.length+tot w≤1000000000000
theorem c24 {a b:Wd} (ha:okT a.l) (hb:okT b.l) {id:Nat} {H:Heap} (hg:H[id]? =some (.cells [encW a,encW b])) :
  ACall PP 9 [.sl id 0 2 1] H (Just H (.int .i64 (nww (nww 0 a.l) b.l))):=by
 have hg:(H++[])[id]? =some (.cells [encW a,encW b]):=z0H hg
 have sa:=sl_W a
 have sb:=sl_W b
 unfold okT at ha hb
 have la:(a.l.map AV.str).length=a.l.length:=List.length_map _
 have lb:(b.l.map AV.str).length=b.l.length:=List.length_map _
 have na:=nw_le (0+a.l.length) a.l
 have nb:=nw_le (nww 0 a.l+b.l.length) b.l
 have e1:nww 0 a.l=nw (0+a.l.length) a.l:=rfl
 refine ACall.gives (is9.c1 z0W mixed rfl ?_)
 refine z0G ?_
 refine z5H (fun al H'=>al=[(0,.sl id 0 2 1),(3,.int .i64 (0:Nat)),(4,.int .i64 (0:Nat))]∧H'=H++[]) (fun al H'=>al=[(0,.sl id 0 2 1),(3,.int .i64 (nww 0 a.l:Nat)),(4,.int .i64 (1:Nat))]∧H'=H++[])
  (fun al H'=>al=[(0,.sl id 0 2 1),(3,.int .i64 (nww (nww 0 a.l) b.l:Nat)),(4,.int .i64 (2:Nat))]∧H'=H++[]) ⟨rfl,rfl⟩ ?_ ?_ ?_
 ·rintro _ _ ⟨rfl,rfl⟩
  refine z0G ?_
  refine z2J (a:=0) (b:=(a.l.map AV.str).length) (by rfl) (by rfl) (by omega) ?_
  refine z0G ?_
  refine z1B a.l.length (fun j al H'=>∃ n:Nat,al=[(0,.sl id 0 2 1),(3,.int .i64 n),(4,.int .i64 (0:Nat)),(5,.int .i64 j)]∧H'=H++[]∧n≤0+a.l.length+tot (a.l.take j)∧nww (0) a.l=nw n (a.l.drop j)) ⟨_,rfl,rfl,by rw [la];omega,by rw [la];rfl⟩ ?_
  rintro j _ _ hj ⟨n,rfl,rfl,hnb,hv⟩
  have ht:=tot_le a.l j
  refine z0G ?_
  cases hc:decide ((j:Int)<((a.l.map AV.str).length:Int))
  ·simp only [decide_eq_false_iff_not] at hc
   rw [List.drop_of_length_le (by omega)] at hv
   refine z0G ?_
   exact ⟨by rw [hv];rfl,rfl⟩
  ·simp only [decide_eq_true_eq] at hc
   obtain ⟨c,hcg⟩:=z1E (l:=a.l) (i:=j) (by omega)
   have hu:=getmap (f:=AV.str) hcg
   rw [z3K hcg] at hv
   simp only [nw] at hv
   refine z0G ?_
   refine z0T _ rfl ?_ ?_<;>intro hq
   ·simp only [decide_eq_true_eq] at hq
    rw [if_pos (by omega)] at hv
    have h1:=tot_take hcg
    have h2:=tot_le a.l (j+1)
    refine z0G ?_
    refine z2J (a:=n) (b:=c.length) (by rfl) (by rfl) (by omega) ?_
    refine z0G ?_
    exact ⟨by omega,_,rfl,rfl,by omega,hv⟩
   ·simp only [decide_eq_false_iff_not] at hq
    rw [if_neg (by omega)] at hv
    refine z0G ?_
    exact ⟨by rw [hv];rfl,rfl⟩
 ·rintro _ _ ⟨rfl,rfl⟩
  refine z0G ?_
  refine z2J (a:=nww 0 a.l) (b:=(b.l.map AV.str).length) (by rfl) (by rfl) (by omega) ?_
  refine z0G ?_
  refine z1B b.l.length (fun j al H'=>∃ n:Nat,al=[(0,.sl id 0 2 1),(3,.int .i64 n),(4,.int .i64 (1:Nat)),(5,.int .i64 j)]∧H'=H++[]∧n≤nww 0 a.l+b.l.length+tot (b.l.take j)∧nww (nww 0 a.l) b.l=nw n (b.l.drop j)) ⟨_,rfl,rfl,by rw [lb];omega,by rw [lb];rfl⟩ ?_
  rintro j _ _ hj ⟨n,rfl,rfl,hnb,hv⟩
  have ht:=tot_le b.l j
  refine z0G ?_
  cases hc:decide ((j:Int)<((b.l.map AV.str).length:Int))
  ·simp only [decide_eq_false_iff_not] at hc
   rw [List.drop_of_length_le (by omega)] at hv
   refine z0G ?_
   exact ⟨by rw [hv];rfl,rfl⟩
  ·simp only [decide_eq_true_eq] at hc
   obtain ⟨c,hcg⟩:=z1E (l:=b.l) (i:=j) (by omega)
   have hu:=getmap (f:=AV.str) hcg
   rw [z3K hcg] at hv
   simp only [nw] at hv
   refine z0G ?_
   refine z0T _ rfl ?_ ?_<;>intro hq
   ·simp only [decide_eq_true_eq] at hq
    rw [if_pos (by omega)] at hv
    have h1:=tot_take hcg
    have h2:=tot_le b.l (j+1)
    refine z0G ?_
    refine z2J (a:=n) (b:=c.length) (by rfl) (by rfl) (by omega) ?_
    refine z0G ?_
    exact ⟨by omega,_,rfl,rfl,by omega,hv⟩
   ·simp only [decide_eq_false_iff_not] at hq
    rw [if_neg (by omega)] at hv
    refine z0G ?_
    exact ⟨by rw [hv];rfl,rfl⟩
 ·rintro _ _ ⟨rfl,rfl⟩
  refine z0G ?_
  exact fr
def wSym (s:Bt):Bt:=if ((s.length:Int)==1) then s else [60]++s++[62]
def wtext:List Bt→Bt
 | []=>[]
 | s::w=>wSym s++wtext w
theorem wtext_app (a b:List Bt):wtext (a++b)=wtext a++wtext b:=by
 induction a with
 | nil=>rfl
 | cons x xs ih=>simp [wtext,ih]
theorem wtext_take {l:List Bt} {i:Nat} {x:Bt} (h:l[i]? =some x):wtext (l.take (i+1))=wtext (l.take i)++wSym x:=by
 rw [z1U h,wtext_app];simp [wtext]
theorem wtext_le (l:List Bt) (i:Nat):(wtext (l.take i)).length≤(wtext l).length:=by
 conv=>rhs;rw [←List.take_append_drop i l,wtext_app,List.length_append]
 omega
theorem wSym_le (s:Bt):(wSym s).length≤s.length+2:=by
 unfold wSym;split<;>simp
def ptext (w:List Bt):Bt:=if ((w.length:Int)==0) then [91,93] else wtext w
def brk (w:List Bt):Bool:=w==[[91],[93]]
def sSym (s:Bt):Bt:=if decide ((s.length:Int)>1) then [60]++s++[62] else match s with
 | c::_=>if isAl c then s else [92]++s
 | []=>[]
def sign0 (op:Int) (s:Bt):Bt:=if op=1 then [46] else if op=2 then [91,93] else if op=3 then [33] else sSym s
theorem c219 {op:Int} {s:Bt} {nl:Bool} {l:List Ex} (hs:okS s) (ho:0≤op∧op≤3) (h0:op=0→s≠[]) (H:Heap):ACall PP 144 [enc (.mk op s nl l)] H (Just H (.str (sign0 op s))):=by
 rw [z0U]
 refine ACall.gives (is144.c1 z0W mixed rfl ?_)
 unfold okS at hs
 have:op=0∨op=1∨op=2∨op=3:=by omega
 rcases this with rfl | rfl | rfl | rfl
 ·rw [show sign0 0 s=sSym s from rfl]
  unfold sSym
  have h0:=h0 rfl
  refine z0G ?_
  cases h:decide ((s.length:Int)>1)
  ·match s,h0 with
   | c::s',_ =>
    have hc:(c::s')[0]? =some c:=rfl
    have hs':s'.length+1≤1000000000000:=hs
    refine z0G ?_
    refine z0F rfl (c250 c _) ?_
    simp only [Bool.false_eq_true,if_false]
    refine z0G ?_
    cases ha:isAl c
    ·refine z3L ?_
     exact fr
    ·refine z0G ?_
     exact fr
  ·simp only [if_true]
   refine z3L ?_
   exact fr
 ·refine z0G ?_
  exact fr
 ·refine z0G ?_
  exact fr
 ·refine z0G ?_
  exact fr
def Ex.op:Ex→Int
 | .mk op _ _ _=>op
abbrev Kd:=Int × Bt
def tx (least:Int) (k:Kd):Bt:=if lvl k.1<least then [91]++k.2++[93] else k.2
def tails (sg:Bt) (least:Int):List Kd→Bt
 | []=>[]
 | k::ks=>sg++tx least k++tails sg least ks
def jn (sg:Bt) (f least:Int):List Kd→Bt
 | []=>[]
 | k::ks=>tx f k++tails sg least ks
def hdT (least:Int):List Kd→Bt
 | []=>[]
 | k::_=>tx least k
def only3:List Kd→Bt
 | [a,b,c]=>tx 1 a++[32,61,62]++(if (b.1 != 2) then [32]++tx 1 b else [])++[32,95]++(if (c.1 != 2) then [32]++tx 1 c else [])
 | _=>[]
def node (op:Int) (s:Bt) (ks:List Kd):Bt :=
 if op=14 then only3 ks else if op=7 then jn [32,45,32] 1 2 ks else if op=5 then jn [32,124,32] 3 3 ks else if op=6 then jn [32,38,32] 4 4 ks else
 if op=15 then jn [32,37,32] 4 5 ks else if op=13 then jn [32,47,32] 5 6 ks else if op=4 then jn [] 7 7 ks else if op=11 then [126]++hdT 7 ks else if op=12 then [36]++hdT 7 ks else
 if op=8 then hdT 8 ks++[42] else if op=9 then hdT 8 ks++[43] else if op=10 then hdT 8 ks++[63] else sign0 op s
mutual
def body:Ex→Bt
 | .mk op s _ l=>node op s (bodies l)
def bodies:List Ex→List Kd
 | []=>[]
 | x::xs=>(x.op,body x)::bodies xs
end
def textE (e:Ex) (least:Int):Bt:=tx least (e.op,body e)
theorem bodies_map:∀ l:List Ex,bodies l=l.map fun x=>(x.op,body x)
 | []=>rfl
 | x::xs=>by simp only [bodies,bodies_map xs,List.map_cons]
def sumK:List Kd→Nat
 | []=>0
 | k::ks=>k.2.length+5+sumK ks
theorem tx_le (f:Int) (k:Kd):(tx f k).length≤k.2.length+2:=by unfold tx;split<;>simp
theorem tails_le (sg:Bt) (hs:sg.length≤3) (f:Int):∀ ks,(tails sg f ks).length≤sumK ks
 | []=>Nat.le_refl _
 | k::ks=>by
  have:=tails_le sg hs f ks
  have:=tx_le f k
  simp only [tails,sumK,List.length_append];omega
theorem jn_le (sg:Bt) (hs:sg.length≤3) (f g:Int):∀ ks,(jn sg f g ks).length≤sumK ks
 | []=>Nat.le_refl _
 | k::ks=>by
  have:=tails_le sg hs g ks
  have:=tx_le f k
  simp only [jn,sumK,List.length_append];omega
theorem hdT_le (f:Int):∀ ks,(hdT f ks).length≤sumK ks
 | []=>Nat.le_refl _
 | k::ks=>by
  have:=tx_le f k
  simp only [hdT,sumK];omega
theorem only3_le:∀ ks,(only3 ks).length≤sumK ks+16:=by
 intro ks
 unfold only3
 split
 ·rename_i a b c
  have:=tx_le 1 a
  have:=tx_le 1 b
  have:=tx_le 1 c
  have e1:∀ (q:Bool) (t:Bt),(if q=true then t else []).length≤t.length:=by intro q t;cases q<;>simp
  have:=e1 (b.1 != 2) ([32]++tx 1 b)
  have:=e1 (c.1 != 2) ([32]++tx 1 c)
  simp only [sumK,List.length_append,List.length_cons,List.length_nil] at *
  omega
 ·simp
theorem sSym_le (s:Bt):(sSym s).length≤s.length+2:=by
 unfold sSym
 split
 ·simp
 ·split
  ·split<;>simp
  ·simp
theorem sign0_le (op:Int) (s:Bt):(sign0 op s).length≤s.length+2:=by
 unfold sign0
 have:=sSym_le s
 split
 ·simp
 ·split
  ·simp
  ·split
   ·simp
   ·exact this
theorem node_le (op:Int) (s:Bt) (ks:List Kd):(node op s ks).length≤s.length+sumK ks+16:=by
 have h1:=only3_le ks
 have h2:=fun sg h f g=>jn_le sg h f g ks
 have h3:=fun f=>hdT_le f ks
 have h4:=sign0_le op s
 unfold node
 have:=h3 7
 have:=h3 8
 by_cases e14:op=14
 ·rw [if_pos e14];omega
 rw [if_neg e14]
 by_cases e7:op=7
 ·rw [if_pos e7];have:=h2 [32,45,32] (by decide) 1 2;omega
 rw [if_neg e7]
 by_cases e5:op=5
 ·rw [if_pos e5];have:=h2 [32,124,32] (by decide) 3 3;omega
 rw [if_neg e5]
 by_cases e6:op=6
 ·rw [if_pos e6];have:=h2 [32,38,32] (by decide) 4 4;omega
 rw [if_neg e6]
 by_cases e15:op=15
 ·rw [if_pos e15];have:=h2 [32,37,32] (by decide) 4 5;omega
 rw [if_neg e15]
 by_cases e13:op=13
 ·rw [if_pos e13];have:=h2 [32,47,32] (by decide) 5 6;omega
 rw [if_neg e13]
 by_cases e4:op=4
 ·rw [if_pos e4];have:=h2 [] (by decide) 7 7;omega
 rw [if_neg e4]
 by_cases e11:op=11
 ·rw [if_pos e11];simp only [List.length_append,List.length_cons,List.length_nil];omega
 rw [if_neg e11]
 by_cases e12:op=12
 ·rw [if_pos e12];simp only [List.length_append,List.length_cons,List.length_nil];omega
 rw [if_neg e12]
 by_cases e8:op=8
 ·rw [if_pos e8];simp only [List.length_append,List.length_cons,List.length_nil];omega
 rw [if_neg e8]
 by_cases e9:op=9
 ·rw [if_pos e9];simp only [List.length_append,List.length_cons,List.length_nil];omega
 rw [if_neg e9]
 by_cases e10:op=10
 ·rw [if_pos e10];simp only [List.length_append,List.length_cons,List.length_nil];omega
 rw [if_neg e10]
 omega
mutual
theorem body_le:∀ e:Ex,(body e).length+5≤21*e.w
 | .mk op s nl l=>by
  have:=bodies_le l
  have:=node_le op s (bodies l)
  simp only [body,Ex.w];omega
theorem bodies_le:∀ l:List Ex,sumK (bodies l)≤21*ws l
 | []=>Nat.le_refl _
 | x::xs=>by
  have:=body_le x
  have:=bodies_le xs
  simp only [bodies,sumK,ws] at *;omega
end
theorem textE_le (e:Ex) (f:Int):(textE e f).length≤21*e.w:=by
 have:=body_le e
 have:=tx_le f (e.op,body e)
 unfold textE;change _≤(body e).length+2 at this;omega
theorem frs {rs:List RV} {al:AL} {H G:Heap} {a b:Bt} (e:a=b) (hv:resultL rs al (H++G)=some (.str a):=by rfl) :
  fpostL rs (Gives H (.str b)) .ret al (H++G):=by subst e;exact z1G hv (z2T (Plain.str _))
theorem right_facts {op:Int} {s:Bt} {nl:Bool} {l:List Ex} (h:(Ex.mk op s nl l).right=true) :
  (0≤op∧op≤15)∧(op=0→s≠[])∧(op=14→l.length=3)∧(op=7∨op=13∨op=15→l.length=2)∧(op=8∨op=9∨op=10∨op=11∨op=12→l.length=1)∧(∀ x∈l,x.right=true):=by
 have hr:(Ex.mk op s nl l).right=(!badNode (kidsS op) op s l.length && !badSym op s && !(l.any fun x=>!x.right)):=by rw [rights_any];rfl
 rw [hr] at h
 simp only [Bool.and_eq_true,Bool.not_eq_true',List.any_eq_false] at h
 obtain ⟨⟨h1,h2⟩,h3⟩:=h
 have h3:∀ x∈l,x.right=true:=fun x hx=>by have:=h3 x hx;simpa using this
 rcases ops_all op with ho | ho
 ·refine ⟨by omega,?_,?_,?_,?_,h3⟩
  ·rintro rfl
   rintro rfl
   revert h2;decide
  ·rintro rfl
   simp [badNode,kidsS] at h1;omega
  ·rintro (rfl | rfl | rfl)<;>simp [badNode,kidsS] at h1<;>omega
  ·rintro (rfl | rfl | rfl | rfl | rfl)<;>simp [badNode,kidsS] at h1<;>omega
 ·have e:kidsS op=(0,0,false):=by
   unfold kidsS
   rw [if_neg (by omega),if_neg (by omega),if_neg (by omega),if_neg (by omega),if_neg (by omega)]
  rw [e] at h1
  simp [badNode] at h1
theorem ws3 {a b c:Ex}:ws [a,b,c]=a.w+(b.w+(c.w+0)):=rfl
theorem lvl_nonneg (op:Int):0≤lvl op:=by
 unfold lvl
 repeat' split
 all_goals decide
theorem get1 {x:Ex} {op:Int} {s:Bt} {nl:Bool} {l:List Ex} (h:x=.mk op s nl l):([x].map enc)[0]? =some (.agg [.int .i64 op,.str s,lst nl l]):=by
 subst h;exact congrArg some (z0U ..)
end Go.Ab
