/- Part 37 of the proof. -/
import Derived.Test.YtgpnlpieipoogaaGreatDoorA31
import Derived.Test.YtgpnlpieipoogaaGreatDoorA35
set_option linter.unusedVariables false
set_option linter.unusedSimpArgs false
namespace Go.Ab
open Go
set_option maxRecDepth 100000
set_option maxHeartbeats 8000000
theorem c287 (n:Nat) {op:Int} {sg:Bt} {nx:Md} {g:FuncId} (hgb:hasBody PP g=true) (hk:∀ m,m≤n→WOk m g nx) (hsn:nx.sgn=true) (hfn:nx.fn=true) (hl1:sg.length=1)
  {rid:Nat} {s:Bt} {p:Nat} {H:Heap} (hg:H[rid]? =some (RB s p)) (hp:p≤s.length) (hs:s.length≤6000) (hne:pe (n+1) (.all op sg nx) s p≠.oof) :
  ACall PP 219 [.ptr rid 0,.int .i64 op,.str sg,.clo (.func g) [.ptr rid 0] []] H (PePost H rid s (pe (n+1) (.all op sg nx) s p)):=by
 have hrl:=(List.getElem?_eq_some_iff.1 hg).1
 simp only [pe] at hne ⊢
 refine ACall.sealed (n:=H.length) ?_
 refine is219.c4 z0W mixed rfl ?_
 rw [List.append_nil]
 have m0:Mod H rid (RB s p) (H++[B0]):=(Mod.refl hg).app _
 refine z0E ?_
 have hne1:pe n nx s p≠.oof:=fun e=>hne (by rw [e];rfl)
 refine st_pev (by rfl) hgb (hk n (Nat.le_refl _) m0.get hp hs hne1) ?_ ?_
 rotate_left
 ·intro q H' he hm
  exact z1F (by rw [he];rfl) (m0.trans hm)
 intro op1 t nl l q H1 he hm
 have hb0:H1[H.length]? =some B0:=hm.old _ _ (by omega) z0Q
 obtain ⟨a1,a2,a3,a4⟩:=pe_ok _ _ _ _ _ hsn he hp
 have a4:=a4 hfn
 simp only at a1 a2 a4
 rw [he,z0N] at hne ⊢
 refine z0V (out:=flatE [.mk op1 t nl l]) (by rw [z0Y];rfl) ?_
 have m1:=(m0.trans hm).app [.cells (flatE [.mk op1 t nl l])]
 have hb1:=z0H (G:=[.cells (flatE [.mk op1 t nl l])]) hb0
 have hli:(H1++[.cells (flatE [.mk op1 t nl l])])[H1.length]? =some (.cells (flatE [.mk op1 t nl l])):=z0Q
 have hl2:=(List.getElem?_eq_some_iff.1 hb0).1
 generalize (H1++[.cells (flatE [.mk op1 t nl l])]:Heap)=H2 at *
 generalize H1.length=id1 at *
 generalize hx:pe n (.allL op sg nx [.mk op1 t nl l]) s q=xx at *
 refine z0E ?_
 refine z2G (fun m al H'=>∃ id L q,al=[(0,.ptr rid 0),(1,.int .i64 op),(2,.str sg),(3,.clo (.func g) [.ptr rid 0] []),(8,.ptr H.length 0),(9,.sl id 0 L.length 3)]∧H'[id]? =some (.cells (flatE L))∧H.length<id∧H'[H.length]? =some B0∧Mod H rid (RB s q) H'∧q≤s.length ∧
  m≤n∧pe m (.allL op sg nx L) s q=xx∧L≠[]∧L.length≤q) n ⟨id1,[.mk op1 t nl l],q,rfl,hli,by omega,hb1,m1,a2,Nat.le_refl _,hx,by simp,by simp;omega⟩ ?_
 clear hli hb1 m1 a1 a2 a3 a4 hb0 hm he hl2 hx m0 hne1
 rintro m _ H1 ⟨id,L,q,rfl,hli,hid,hb0,hm,hq,hmn,hx,hL,hLq⟩
 cases m with
 | zero=>exact absurd hx.symm hne
 | succ m =>
 simp only [pe] at hx
 refine z0E ?_
 refine st_tak (by rfl) hm.get hq hs ?_ ?_
 rotate_left
 ·intro q' H' ht hm2
  exact z1F (by rw [←hx,ht];rfl) (hm.trans hm2)
 intro b q2 H2 ht hq2 hg2 hm2
 rw [ht,z0N] at hx
 simp only at hx
 obtain ⟨t1,t2,t3⟩:=z3G ht hq
 simp only at t1 t2 t3
 have hli2:=hm2.old _ _ (by omega) hli
 have hb2:=hm2.old _ _ (by omega) hb0
 have m2:=hm.trans hm2
 refine z0E ?_
 cases b
 ·
  simp only [Bool.false_eq_true,if_false] at hx
  refine z0E ?_
  have hne2:id≠H.length:=by omega
  cases h1:((L.length:Int)==1)
  ·have e1:oneOr op L=nd op L:=by
    match L,hL,h1 with
    | [_],_,h1=>simp at h1
    | _::_::_,_,_=>rfl
   rw [e1] at hx
   refine z0E ?_
   refine z0R rfl rfl ?_
   refine z0P rfl rfl hb2 rfl ?_
   refine z0E ?_
   exact z1G (z1K rfl (z0C hb2)) (fin_node hx.symm (z0A hli2 hne2) (by omega) (m2.own (Nat.le_refl _) (by omega)) hrl)
  ·match L,hL,h1,hli2 with
   | [.mk op' t' nl l],_,_,hli2 =>
    rw [z0Y] at hli2
    refine z0E ?_
    refine z2E (i:=0) rfl rfl (by simp) ?_
    refine z0E ?_
    refine z0P rfl rfl hb2 z1C ?_
    refine z0E ?_
    exact z1G (z1K rfl (z0C hb2)) (z4X (z0U _ _ _ _).symm hx.symm (m2.own (Nat.le_refl _) (by omega)))
   | _::_::_,_,h1,_=>simp at h1;omega
 ·
  simp only [if_true] at hx
  have t3:=t3 rfl
  rw [hl1] at t3
  have hne3:pe m nx s q2≠.oof:=fun e=>hne (by rw [←hx,e];rfl)
  refine z0E ?_
  refine st_pev (by rfl) hgb (hk m (by omega) hg2 (by omega) hs hne3) ?_ ?_
  rotate_left
  ·intro q' H' he hm3
   exact z1F (by rw [←hx,he];rfl) (m2.trans hm3)
  intro op' t' nl l q3 H3 he hm3
  rw [he,z0N] at hx
  obtain ⟨a1,a2,_,a4⟩:=pe_ok _ _ _ _ _ hsn he (by omega)
  have a4:=a4 hfn
  simp only at a1 a2 a4 hx
  have hli3:=hm3.old _ _ (by omega) hli2
  have hb3:=hm3.old _ _ (by omega) hb2
  have m3:=m2.trans hm3
  refine z1Q ?_
  refine z1H rfl rfl rfl rfl rfl z1C ?_
  have hla:(H3++[Blk.cells [.int .i64 op',.str t',lst nl l]])[H3.length]? =some (.cells [.int .i64 op',.str t',lst nl l]):=z0Q
  have m4:=m3.app [Blk.cells [.int .i64 op',.str t',lst nl l]]
  have hli4:=z0H (G:=[Blk.cells [.int .i64 op',.str t',lst nl l]]) hli3
  have hb4:=z0H (G:=[Blk.cells [.int .i64 op',.str t',lst nl l]]) hb3
  generalize hX:(H3++[Blk.cells [.int .i64 op',.str t',lst nl l]]:Heap)=X at *
  refine z0E ?_
  refine z0V (out:=flatE [.mk op' t' nl l]) (by rw [z0Y];rfl) ?_
  refine st_appE (L:=L) (id:=id) (by rfl) (by rfl) hli4 (by omega) ?_
  intro H5 hl5 ho5 hlt5
  have hXl:=(List.getElem?_eq_some_iff.1 hb4).1
  refine z0E ?_
  exact ⟨m,by omega,_,L++[.mk op' t' nl l],q3,rfl,hl5,by omega,ho5 _ _ (by omega) hb4,⟨ho5 _ _ (by omega) m4.get,fun j b hj hb=>ho5 _ _ (by have:=(List.getElem?_eq_some_iff.1 hb).1;omega) (m4.old j b hj hb),by have:=m4.len;omega⟩,a2,by omega,hx,by simp,by simp;omega⟩
theorem c277 (n:Nat) (hgb:hasBody PP 220=true) (hk:∀ m,m+2≤n→WOk m 220 .and):WOk n 209 .or:=by
 intro rid s p H hg hp hs hne
 cases n with
 | zero=>exact absurd rfl hne
 | succ n =>
 simp only [pe] at hne ⊢
 cases n with
 | zero=>exact absurd rfl hne
 | succ n =>
 have hrl:=(List.getElem?_eq_some_iff.1 hg).1
 refine ACall.sealed (n:=H.length) ?_
 refine is209.c1 z0W mixed rfl ?_
 rw [List.append_nil]
 have m0:Mod H rid (RB s p) (H++[B0]):=(Mod.refl hg).app _
 refine z0E ?_
 refine z5D (args:=[.ptr rid 0,.int .i64 5,.str [124],.clo (.func 220) [.ptr rid 0] []]) (by rfl) (c287 n hgb (fun m hm=>hk m (by omega)) rfl rfl rfl m0.get hp hs hne) ?_ ?_
 rotate_left
 ·intro q H' he hm
  exact z1F he (m0.trans hm)
 intro op t nl l q H1 he hm
 have hb0:H1[H.length]? =some B0:=hm.old _ _ (by omega) z0Q
 refine z0P rfl rfl hb0 z1C ?_
 refine z0E ?_
 exact z1G (z1K rfl (z0C hb0)) (z4X (z0U _ _ _ _).symm he ((m0.trans hm).own (Nat.le_refl _) (by omega)))
theorem sealX_cells {id:Nat} {cs:List AV} {x y:AV} (h:SealX id cs x y):x.cells.length=y.cells.length∧∀ i,SealX id cs (x.cells.getD i .top) (y.cells.getD i .top):=by
 have one:∀ {x y:AV},SealX id cs x y→x.cells=[x]→y.cells=[y]→x.cells.length=y.cells.length∧∀ i,SealX id cs (x.cells.getD i .top) (y.cells.getD i .top):=by
  intro x y h hx hy
  rw [hx,hy]
  refine ⟨rfl,fun i=>?_⟩
  match i with
  | 0=>exact h
  | i+1=>exact .refl _
 cases h with
 | base _ _ h =>
  cases h with
  | refl=>exact ⟨rfl,fun i=>.refl _⟩
  | sl off n sz xs hx hs hf hb=>exact one (.base _ _ (.sl off n sz xs hx hs hf hb)) rfl rfl
  | ptr off ho=>exact one (.base _ _ (.ptr off ho)) rfl rfl
  | agg l l' hl r=>exact ⟨hl,fun i=>.base _ _ (r i)⟩
  | tuple l l' hl r=>exact one (.base _ _ (.tuple l l' hl r)) rfl rfl
  | iface t v v' r=>exact one (.base _ _ (.iface t v v' r)) rfl rfl
 | agg l l' hl r=>exact ⟨hl,r⟩
 | tuple l l' hl r=>exact one (.tuple l l' hl r) rfl rfl
 | list sz xs xs' hl hsz r=>exact one (.list sz xs xs' hl hsz r) rfl rfl
theorem SealsX.ctx3 {n:Nat} {C:AV→AV} (hC:∀ {id cs x y},SealX id cs x y→x.cells.length=3→SealX id cs (C x) (C y)) {v u:AV} {H K:Heap} (h:SealsX n v H u K) (hv:v.cells.length=3):SealsX n (C v) H (C u) K:=by
 induction h with
 | done v H=>exact .done _ _
 | step id cs hid hg hs h ih=>exact .step id cs hid hg (hC hs hv) (ih (by rw [←(sealX_cells hs).1];exact hv))
theorem SealsX.mono {n m:Nat} (hm:m≤n) {v u:AV} {H K:Heap} (h:SealsX n v H u K):SealsX m v H u K:=by
 induction h with
 | done v H=>exact .done _ _
 | step id cs hid hg hs h ih=>exact .step id cs (by omega) hg hs ih
inductive Nest (lo:Nat) (H:Heap):Nat→List AV→Ex→Prop
 | base (m:Nat) (op:Int) (t:Bt) (nl:Bool) (l:List Ex):Nest lo H m [.int .i64 op,.str t,lst nl l] (.mk op t nl l)
 | node (m id:Nat) (op:Int) (cs:List AV) (a:Ex) (r:List Ex) (hid:lo≤id) (hlt:id<m) (hg:H[id]? =some (.cells (cs++flatE r))) (hcs:cs.length=3) (h:Nest lo H id cs a) :
   Nest lo H m [.int .i64 op,.str [],.sl id 0 (1+r.length) 3] (nd op (a::r))
theorem Nest.mono {lo:Nat} {H H':Heap} {m m':Nat} {cs:List AV} {e:Ex} (h:Nest lo H m cs e) (hm:m≤m') (hH:∀ j b,lo≤j→j<m→H[j]? =some b→H'[j]? =some b):Nest lo H' m' cs e:=by
 induction h generalizing m' with
 | base m op t nl l=>exact .base _ _ _ _ _
 | node m id op cs a r hid hlt hg hcs h ih=>exact .node _ id op cs a r hid (by omega) (hH _ _ hid hlt hg) hcs (ih (Nat.le_refl _) fun j b h1 h2 h3=>hH j b h1 (by omega) h3)
theorem Nest.seals {lo:Nat} {H:Heap} {m:Nat} {cs:List AV} {e:Ex} (h:Nest lo H m cs e):cs.length=3∧∀ H':Heap,(∀ j b,lo≤j→j<m→H[j]? =some b→H'[j]? =some b)→∃ K,SealsX lo (.agg cs) H' (enc e) K:=by
 induction h with
 | base m op t nl l=>exact ⟨rfl,fun H' _=>⟨H',by rw [z0U];exact .done _ _⟩⟩
 | node m id op cs a r hid hlt hg hcs h ih =>
  refine ⟨rfl,fun H' hH=>?_⟩
  have hg':=hH _ _ hid hlt hg
  obtain ⟨K,hK⟩:=ih.2 (H'.set id .dead) fun j b h1 h2 h3=>by
   rw [List.getElem?_set,if_neg (by omega)];exact hH j b h1 (by omega) h3
  refine ⟨K,.step id _ hid hg' (v':=.agg [.int .i64 op,.str [],.list 3 (.agg cs::r.map enc)]) (.base _ _ (.agg _ _ rfl fun i=>?_)) ?_⟩
  ·match i with
   | 0=>exact .refl _
   | 1=>exact .refl _
   | 2 =>
    refine .sl 0 _ 3 _ (by simp;omega) (fun x hx=>?_) ?_ ?_
    ·rcases List.mem_cons.1 hx with rfl | hx
     ·exact hcs
     ·obtain ⟨e,_,rfl⟩:=List.mem_map.1 hx
      obtain ⟨a,b,c,d⟩:=e;rw [z0U];rfl
    ·have e1:(cs++flatE r).length=(1+r.length)*3:=by rw [List.length_append,z2Y,hcs];omega
     rw [List.drop_zero,←e1,List.take_length];rfl
    ·rw [List.length_append,z2Y,hcs];omega
   | i+3=>exact .refl _
  ·have e2:enc (nd op (a::r))=.agg [.int .i64 op,.str [],.list 3 (enc a::r.map enc)]:=by
    unfold nd;rw [z0U];simp [lst]
   rw [e2]
   refine SealsX.ctx3 (C:=fun x=>.agg [.int .i64 op,.str [],.list 3 (x::r.map enc)]) ?_ hK hcs
   intro id cs' x y hs hx
   obtain ⟨s1,s2⟩:=sealX_cells hs
   refine .agg _ _ rfl fun i=>?_
   match i with
   | 0=>exact .refl _
   | 1=>exact .refl _
   | 2 =>
    refine .list 3 _ _ (by simp) (fun z hz=>?_) fun j=>?_
    ·rcases List.mem_cons.1 hz with rfl | hz
     ·omega
     ·obtain ⟨e,_,rfl⟩:=List.mem_map.1 hz
      obtain ⟨a,b,c,d⟩:=e;rw [z0U];rfl
    ·have f1:flat (x::r.map enc)=x.cells++flat (r.map enc):=rfl
     have f2:flat (y::r.map enc)=y.cells++flat (r.map enc):=rfl
     rw [f1,f2]
     by_cases hj:j<x.cells.length
     ·have:=s2 j
      rw [List.getD_eq_getElem?_getD,List.getD_eq_getElem?_getD] at this ⊢
      rw [List.getElem?_append_left hj,List.getElem?_append_left (by omega)];exact this
     ·rw [List.getD_eq_getElem?_getD,List.getD_eq_getElem?_getD,List.getElem?_append_right (by omega),List.getElem?_append_right (by omega),s1]
      exact .refl _
   | i+3=>exact .refl _
theorem c276 (n:Nat) {op:Int} {sg:Bt} {nx:Md} {g:FuncId} (hgb:hasBody PP g=true) (hk:∀ m,m≤n→WOk m g nx) (hsn:nx.sgn=true) (hfn:nx.fn=true) (hl1:sg.length=1)
  {rid:Nat} {s:Bt} {p:Nat} {H:Heap} (hg:H[rid]? =some (RB s p)) (hp:p≤s.length) (hs:s.length≤6000) (hne:pe (n+1) (.left op sg nx) s p≠.oof) :
  ACall PP 208 [.ptr rid 0,.int .i64 op,.str sg,.clo (.func g) [.ptr rid 0] []] H (PePost H rid s (pe (n+1) (.left op sg nx) s p)):=by
 have hrl:=(List.getElem?_eq_some_iff.1 hg).1
 simp only [pe] at hne ⊢
 refine ACall.sealed (n:=H.length) ?_
 refine is208.c4 z0W mixed rfl ?_
 rw [List.append_nil]
 have m0:Mod H rid (RB s p) (H++[B0]):=(Mod.refl hg).app _
 refine z0E ?_
 have hne1:pe n nx s p≠.oof:=fun e=>hne (by rw [e];rfl)
 refine st_pev (by rfl) hgb (hk n (Nat.le_refl _) m0.get hp hs hne1) ?_ ?_
 rotate_left
 ·intro q H' he hm
  exact z1F (by rw [he];rfl) (m0.trans hm)
 intro op1 t nl l q H1 he hm
 have hb0:H1[H.length]? =some B0:=hm.old _ _ (by omega) z0Q
 obtain ⟨a1,a2,a3,a4⟩:=pe_ok _ _ _ _ _ hsn he hp
 have a4:=a4 hfn
 simp only at a1 a2 a4
 rw [he,z0N] at hne ⊢
 refine z1Q ?_
 refine z1H rfl rfl rfl rfl rfl z1C ?_
 have m1:=(m0.trans hm).app [.cells [.int .i64 op1,.str t,lst nl l]]
 have hb1:=z0H (G:=[.cells [.int .i64 op1,.str t,lst nl l]]) hb0
 have hla:(H1++[Blk.cells [.int .i64 op1,.str t,lst nl l]])[H1.length]? =some (.cells [.int .i64 op1,.str t,lst nl l]):=z0Q
 have hl2:=(List.getElem?_eq_some_iff.1 hb0).1
 have hll:(H1++[Blk.cells [.int .i64 op1,.str t,lst nl l]]:Heap).length=H1.length+1:=by simp
 generalize (H1++[Blk.cells [.int .i64 op1,.str t,lst nl l]]:Heap)=H2 at *
 generalize H1.length=b9 at *
 generalize hx:pe n (.leftL op sg nx (.mk op1 t nl l)) s q=xx at *
 refine z0E ?_
 refine z2G (fun m al H'=>∃ c0 c1 c2 a q,al=[(0,.ptr rid 0),(1,.int .i64 op),(2,.str sg),(3,.clo (.func g) [.ptr rid 0] []),(8,.ptr H.length 0),(9,.ptr b9 0)]∧H'[b9]? =some (.cells [c0,c1,c2])∧([c0,c1,c2]:List AV).all AV.scalar=true ∧
  Nest (b9+1) H' H'.length [c0,c1,c2] a∧H'[H.length]? =some B0∧Mod H rid (RB s q) H'∧q≤s.length∧m≤n∧pe m (.leftL op sg nx a) s q=xx) n
  ⟨_,_,_,.mk op1 t nl l,q,rfl,hla,z1C,.base _ _ _ _ _,hb1,m1,a2,Nat.le_refl _,hx⟩ ?_
 clear hla hb1 m1 a1 a2 a3 a4 hb0 hm he hx m0 hne1 hll
 rintro m _ H1 ⟨c0,c1,c2,a,q,rfl,h9,hsc,hN,hb0,hm,hq,hmn,hx⟩
 cases m with
 | zero=>exact absurd hx.symm hne
 | succ m =>
 simp only [pe] at hx
 refine z0E ?_
 refine st_tak (by rfl) hm.get hq hs ?_ ?_
 rotate_left
 ·intro q' H' ht hm2
  exact z1F (by rw [←hx,ht];rfl) (hm.trans hm2)
 intro b q2 H2 ht hq2 hg2 hm2
 rw [ht,z0N] at hx
 simp only at hx
 obtain ⟨t1,t2,t3⟩:=z3G ht hq
 simp only at t1 t2 t3
 have h92:=hm2.old _ _ (by omega) h9
 have hb2:=hm2.old _ _ (by omega) hb0
 have m2:=hm.trans hm2
 have hN2:Nest (b9+1) H2 H2.length [c0,c1,c2] a:=hN.mono hm2.len fun j b h1 h2 h3=>hm2.old j b (by omega) h3
 refine z0E ?_
 cases b
 ·
  simp only [Bool.false_eq_true,if_false] at hx
  refine z0E ?_
  refine z0P rfl rfl hb2 hsc ?_
  refine z0E ?_
  have hN3:Nest (b9+1) (H2.set H.length (.cells [c0,c1,c2])) H2.length [c0,c1,c2] a:=hN2.mono (Nat.le_refl _) fun j b h1 h2 h3=>z0A h3 (by omega)
  obtain ⟨K,hK⟩:=hN3.seals.2 _ fun j b _ _ h=>h
  have hK:=hK.mono (m:=H.length) (by omega)
  have m3:Mod H rid (RB s q2) (H2.set H.length (.cells [c0,c1,c2])):=m2.own (Nat.le_refl _) (by omega)
  exact z1G (z1K rfl (z0C hb2)) (.inl ⟨_,_,K,rfl,hK,a,q2,hx.symm,rfl,m3.seals hrl (Nat.le_refl _) hK⟩)
 ·
  simp only [if_true] at hx
  have t3:=t3 rfl
  rw [hl1] at t3
  have hne3:pe m nx s q2≠.oof:=fun e=>hne (by rw [←hx,e];rfl)
  refine z0E ?_
  refine st_pev (by rfl) hgb (hk m (by omega) hg2 (by omega) hs hne3) ?_ ?_
  rotate_left
  ·intro q' H' he hm3
   exact z1F (by rw [←hx,he];rfl) (m2.trans hm3)
  intro op' t' nl l q3 H3 he hm3
  rw [he,z0N] at hx
  obtain ⟨a1,a2,_,a4⟩:=pe_ok _ _ _ _ _ hsn he (by omega)
  have a4:=a4 hfn
  simp only at a1 a2 a4 hx
  have h93:=hm3.old _ _ (by omega) h92
  have hb3:=hm3.old _ _ (by omega) hb2
  have m3:=m2.trans hm3
  have hN3:Nest (b9+1) H3 H3.length [c0,c1,c2] a:=hN2.mono hm3.len fun j b h1 h2 h3=>hm3.old j b (by omega) h3
  refine z1Q ?_
  refine z1H rfl rfl rfl rfl rfl z1C ?_
  have hla:(H3++[Blk.cells [.int .i64 op',.str t',lst nl l]])[H3.length]? =some (.cells [.int .i64 op',.str t',lst nl l]):=z0Q
  have m4:=m3.app [Blk.cells [.int .i64 op',.str t',lst nl l]]
  have h94:=z0H (G:=[Blk.cells [.int .i64 op',.str t',lst nl l]]) h93
  have hb4:=z0H (G:=[Blk.cells [.int .i64 op',.str t',lst nl l]]) hb3
  have hN4:Nest (b9+1) (H3++[Blk.cells [.int .i64 op',.str t',lst nl l]]) (H3++[Blk.cells [.int .i64 op',.str t',lst nl l]]:Heap).length [c0,c1,c2] a:=hN3.mono (by simp) fun j b h1 h2 h3=>z0H h3
  generalize hX:(H3++[Blk.cells [.int .i64 op',.str t',lst nl l]]:Heap)=X at *
  have h9l:=(List.getElem?_eq_some_iff.1 h94).1
  refine z0E ?_
  refine z0V (out:=[c0,c1,c2]++flatE [.mk op' t' nl l]) (by rw [z0Y];rfl) ?_
  refine z0R rfl rfl ?_
  refine z0P rfl rfl (z0H h94) rfl ?_
  have m5:=m4.app [Blk.cells ([c0,c1,c2]++flatE [.mk op' t' nl l])]
  have hlast:(X++[Blk.cells ([c0,c1,c2]++flatE [.mk op' t' nl l])])[X.length]? =some (.cells ([c0,c1,c2]++flatE [.mk op' t' nl l])):=z0Q
  refine z0E ?_
  refine ⟨m,by omega,_,_,_,nd op [a,.mk op' t' nl l],q3,rfl,z0C (z0H h94),rfl,?_,z0A (z0H hb4) (by omega),m5.own (by omega) (by omega),a2,by omega,hx⟩
  refine .node _ X.length op [c0,c1,c2] a [.mk op' t' nl l] (by omega) (by simp) (z0A hlast (by omega)) rfl (hN4.mono (Nat.le_refl _) fun j b h1 h2 h3=>z0A (z0H h3) (by omega))
theorem c257 (n:Nat) (hgb:hasBody PP 209=true) (hk:∀ m,m+2≤n→WOk m 209 .or):WOk n 190 .but:=by
 intro rid s p H hg hp hs hne
 cases n with
 | zero=>exact absurd rfl hne
 | succ n =>
 simp only [pe] at hne ⊢
 cases n with
 | zero=>exact absurd rfl hne
 | succ n =>
 have hrl:=(List.getElem?_eq_some_iff.1 hg).1
 refine ACall.sealed (n:=H.length) ?_
 refine is190.c1 z0W mixed rfl ?_
 rw [List.append_nil]
 have m0:Mod H rid (RB s p) (H++[B0]):=(Mod.refl hg).app _
 refine z0E ?_
 refine z5D (args:=[.ptr rid 0,.int .i64 7,.str [45],.clo (.func 209) [.ptr rid 0] []]) (by rfl) (c276 n hgb (fun m hm=>hk m (by omega)) rfl rfl rfl m0.get hp hs hne) ?_ ?_
 rotate_left
 ·intro q H' he hm
  exact z1F he (m0.trans hm)
 intro op t nl l q H1 he hm
 have hb0:H1[H.length]? =some B0:=hm.old _ _ (by omega) z0Q
 refine z0P rfl rfl hb0 z1C ?_
 refine z0E ?_
 exact z1G (z1K rfl (z0C hb0)) (z4X (z0U _ _ _ _).symm he ((m0.trans hm).own (Nat.le_refl _) (by omega)))
theorem c288 (n:Nat) (hgb:hasBody PP 223=true) (hk:∀ m,m+2≤n→WOk m 223 .shuffle):WOk n 220 .and:=by
 intro rid s p H hg hp hs hne
 cases n with
 | zero=>exact absurd rfl hne
 | succ n =>
 simp only [pe] at hne ⊢
 cases n with
 | zero=>exact absurd rfl hne
 | succ n =>
 have hrl:=(List.getElem?_eq_some_iff.1 hg).1
 refine ACall.sealed (n:=H.length) ?_
 refine is220.c1 z0W mixed rfl ?_
 rw [List.append_nil]
 have m0:Mod H rid (RB s p) (H++[B0]):=(Mod.refl hg).app _
 refine z0E ?_
 refine z5D (args:=[.ptr rid 0,.int .i64 6,.str [38],.clo (.func 223) [.ptr rid 0] []]) (by rfl) (c287 n hgb (fun m hm=>hk m (by omega)) rfl rfl rfl m0.get hp hs hne) ?_ ?_
 rotate_left
 ·intro q H' he hm
  exact z1F he (m0.trans hm)
 intro op t nl l q H1 he hm
 have hb0:H1[H.length]? =some B0:=hm.old _ _ (by omega) z0Q
 refine z0P rfl rfl hb0 z1C ?_
 refine z0E ?_
 exact z1G (z1K rfl (z0C hb0)) (z4X (z0U _ _ _ _).symm he ((m0.trans hm).own (Nat.le_refl _) (by omega)))
theorem c292 (n:Nat) (hgb:hasBody PP 224=true) (hk:∀ m,m+2≤n→WOk m 224 .ignore):WOk n 223 .shuffle:=by
 intro rid s p H hg hp hs hne
 cases n with
 | zero=>exact absurd rfl hne
 | succ n =>
 simp only [pe] at hne ⊢
 cases n with
 | zero=>exact absurd rfl hne
 | succ n =>
 have hrl:=(List.getElem?_eq_some_iff.1 hg).1
 refine ACall.sealed (n:=H.length) ?_
 refine is223.c1 z0W mixed rfl ?_
 rw [List.append_nil]
 have m0:Mod H rid (RB s p) (H++[B0]):=(Mod.refl hg).app _
 refine z0E ?_
 refine z5D (args:=[.ptr rid 0,.int .i64 15,.str [37],.clo (.func 224) [.ptr rid 0] []]) (by rfl) (c276 n hgb (fun m hm=>hk m (by omega)) rfl rfl rfl m0.get hp hs hne) ?_ ?_
 rotate_left
 ·intro q H' he hm
  exact z1F he (m0.trans hm)
 intro op t nl l q H1 he hm
 have hb0:H1[H.length]? =some B0:=hm.old _ _ (by omega) z0Q
 refine z0P rfl rfl hb0 z1C ?_
 refine z0E ?_
 exact z1G (z1K rfl (z0C hb0)) (z4X (z0U _ _ _ _).symm he ((m0.trans hm).own (Nat.le_refl _) (by omega)))
theorem c293 (n:Nat) (hgb:hasBody PP 225=true) (hk:∀ m,m+2≤n→WOk m 225 .chain):WOk n 224 .ignore:=by
 intro rid s p H hg hp hs hne
 cases n with
 | zero=>exact absurd rfl hne
 | succ n =>
 simp only [pe] at hne ⊢
 cases n with
 | zero=>exact absurd rfl hne
 | succ n =>
 have hrl:=(List.getElem?_eq_some_iff.1 hg).1
 refine ACall.sealed (n:=H.length) ?_
 refine is224.c1 z0W mixed rfl ?_
 rw [List.append_nil]
 have m0:Mod H rid (RB s p) (H++[B0]):=(Mod.refl hg).app _
 refine z0E ?_
 refine z5D (args:=[.ptr rid 0,.int .i64 13,.str [47],.clo (.func 225) [.ptr rid 0] []]) (by rfl) (c276 n hgb (fun m hm=>hk m (by omega)) rfl rfl rfl m0.get hp hs hne) ?_ ?_
 rotate_left
 ·intro q H' he hm
  exact z1F he (m0.trans hm)
 intro op t nl l q H1 he hm
 have hb0:H1[H.length]? =some B0:=hm.old _ _ (by omega) z0Q
 refine z0P rfl rfl hb0 z1C ?_
 refine z0E ?_
 exact z1G (z1K rfl (z0C hb0)) (z4X (z0U _ _ _ _).symm he ((m0.trans hm).own (Nat.le_refl _) (by omega)))
theorem enc_lf (op:Int) (t:Bt):enc (.mk op t true [])=.agg [.int .i64 op,.str t,.nilslice]:=by rw [z0U];rfl
section steps
variable {P:Program} {H G:Heap} {al:AL} {K:KL} {Qp:AL→AV→Heap→Prop} {os:List IOper} {d:Nat} {x y z:Arg}
theorem z3P {a:Nat} (hx:evL al x=.int .i64 a) (h1:1≤a) (h2:a≤9223372036854775807) (h:VV P os ((d,.int .i64 (a-1:Nat))::al) H K Qp):VV P (⟨some d,.i (.d (.bin .sub)),[x,.const (.int .i64 1)],none,none⟩::os) al H K Qp :=
 st_subi (a:=a) (b:=1) hx rfl (by omega) (by omega) (by rw [show (a:Int)-1=((a-1:Nat):Int) by omega];exact h)
end steps
theorem c297 (n:Nat) (hk:WOk n 174 .only):WOk (n+1) 228 .atom:=by
 intro rid s p H hg hp hs hne
 have hrl:=(List.getElem?_eq_some_iff.1 hg).1
 simp only [pe] at hne ⊢
 generalize hx:(tkn s p).bind _=xx at hne ⊢
 refine ACall.sealed (n:=H.length) ?_
 refine is228.c1 z0W mixed rfl ?_
 rw [List.append_nil]
 have m0:Mod H rid (RB s p) (H++[B0]):=(Mod.refl hg).app _
 have hb0:(H++[B0])[H.length]? =some B0:=z0Q
 refine z0E ?_
 refine st_tk (by rfl) m0.get hp hs ?_ ?_
 rotate_left
 ·intro H' ht hm2
  exact z1F (by rw [←hx,ht];rfl) (m0.trans hm2)
 intro t H2 ht htl hg2 hm2
 have hb2:=hm2.old _ _ (by omega) hb0
 have m2:=m0.trans hm2
 rw [ht,z0N] at hx
 simp only at hx
 generalize skp s p=q at *
 clear hb0 m0 hm2 ht
 refine z0E ?_
 refine z0F rfl (c296 (by omega) _) ?_
 refine z0E ?_
 cases hbg:bgn t
 ·rw [hbg] at hx
  simp only [Bool.not_false,if_true] at hx
  refine z0E ?_
  refine z0R rfl rfl ?_
  refine z0E ?_
  refine z4G rfl ?_
  exact z1F hx.symm m2
 rw [hbg] at hx
 simp only [Bool.not_true,Bool.false_eq_true,if_false] at hx
 have h1:=tok_pos hbg
 obtain ⟨c,hc0⟩:=z1E (l:=t) (i:=0) (by omega)
 have hcd:t.headD 0=c:=by
  cases t with
  | nil=>simp at h1
  | cons x t=>simp at hc0;simp [hc0]
 rw [hcd] at hx
 refine z0E ?_
 refine z2J (a:=q) (b:=t.length) rfl rfl (by omega) ?_
 refine z0E ?_
 refine z0X (.int .i64 (q+t.length:Nat)) rfl rfl hg2 rfl rfl rfl ?_
 have m3:Mod H rid (RB s (q+t.length)) (H2.set rid (.cells (setAt [.str s,.int .i64 q] (0+1) (AV.int .i64 (q+t.length:Nat)).cells))):=m2.put
 have hb3:(H2.set rid (.cells (setAt [.str s,.int .i64 q] (0+1) (AV.int .i64 (q+t.length:Nat)).cells)))[H.length]? =some B0:=z0A hb2 (by omega)
 generalize H2.set rid (.cells (setAt [.str s,.int .i64 q] (0+1) (AV.int .i64 (q+t.length:Nat)).cells))=H3 at *
 clear m2 hb2 hg2
 have fin:∀ {op:Int} {u:Bt} {q':Nat},q'=q+t.length→PR.ok (Ex.mk op u true [],q')=xx→∀ al,look al 2=.ptr H.length 0→fpostL ic228.rs (PePostX H rid s xx) .ret al (H3.set H.length (.cells [.int .i64 op,.str u,.nilslice])):=by
  intro op u q' hq' hxx al hal
  subst hq'
  exact z1G (z1K hal (z0C hb3)) (z4X (enc_lf op u).symm hxx.symm (m3.own (Nat.le_refl _) (by omega)))
 refine z0E ?_
 cases b1:(t==[46])
 rotate_left
 ·rw [b1] at hx
  simp only [if_true] at hx
  have:=z2Q b1
  refine z0E ?_
  refine z0R rfl rfl ?_
  refine z0P rfl rfl hb3 rfl ?_
  refine z0E ?_
  exact fin (by simp only [List.length_cons,List.length_nil] at this;omega) hx _ rfl
 rw [b1] at hx
 simp only [Bool.false_eq_true,if_false] at hx
 refine z0E ?_
 cases b2:(t==[91,93])
 rotate_left
 ·rw [b2] at hx
  simp only [if_true] at hx
  have:=z2Q b2
  refine z0E ?_
  refine z0R rfl rfl ?_
  refine z0P rfl rfl hb3 rfl ?_
  refine z0E ?_
  exact fin (by simp only [List.length_cons,List.length_nil] at this;omega) hx _ rfl
 rw [b2] at hx
 simp only [Bool.false_eq_true,if_false] at hx
 refine z0E ?_
 cases b3:(t==[33])
 rotate_left
 ·rw [b3] at hx
  simp only [if_true] at hx
  have:=z2Q b3
  refine z0E ?_
  refine z0R rfl rfl ?_
  refine z0P rfl rfl hb3 rfl ?_
  refine z0E ?_
  exact fin (by simp only [List.length_cons,List.length_nil] at this;omega) hx _ rfl
 rw [b3] at hx
 simp only [Bool.false_eq_true,if_false] at hx
 refine z0E ?_
 cases b4:(t==[91])
 rotate_left
 ·rw [b4] at hx
  simp only [if_true] at hx
  have hl1:=z2Q b4
  simp only [List.length_cons,List.length_nil] at hl1
  rw [hl1] at m3 htl
  simp only [Nat.zero_add] at m3 htl
  have hne3:pe n .only s (q+1)≠.oof:=fun e=>hne (by rw [←hx,e];rfl)
  refine z0E ?_
  refine z5D (args:=[.ptr rid 0]) (by rfl) (hk m3.get htl hs hne3) ?_ ?_
  rotate_left
  ·intro q' H' he hm4
   exact z1F (by rw [←hx,he];rfl) (m3.trans hm4)
  intro op u nl l q4 H4 he hm4
  rw [he,z0N] at hx
  obtain ⟨a1,a2,_,a4⟩:=pe_ok _ _ _ _ _ rfl he htl
  simp only at a1 a2 hx
  have hb4:=hm4.old _ _ (by omega) hb3
  have m4:=m3.trans hm4
  refine z1Q ?_
  refine z1H rfl rfl rfl rfl rfl z1C ?_
  have m5:=m4.app [Blk.cells [.int .i64 op,.str u,lst nl l]]
  have hb5:=z0H (G:=[Blk.cells [.int .i64 op,.str u,lst nl l]]) hb4
  have hla:(H4++[Blk.cells [.int .i64 op,.str u,lst nl l]])[H4.length]? =some (.cells [.int .i64 op,.str u,lst nl l]):=z0Q
  have hb4l:=(List.getElem?_eq_some_iff.1 hb4).1
  generalize (H4++[Blk.cells [.int .i64 op,.str u,lst nl l]]:Heap)=H5 at *
  generalize H4.length=b4' at *
  refine z0E ?_
  refine st_tak (by rfl) m5.get a2 hs ?_ ?_
  rotate_left
  ·intro q' H' ht hm2
   exact z1F (by rw [←hx,ht];rfl) (m5.trans hm2)
  intro b q6 H6 ht hq6 hg6 hm6
  rw [ht,z0N] at hx
  simp only at hx
  have m6:=m5.trans hm6
  have hb6:=hm6.old _ _ (by omega) hb5
  have hla6:=hm6.old _ _ (by omega) hla
  refine z0E ?_
  cases b
  ·simp only [Bool.false_eq_true,if_false] at hx
   refine z0E ?_
   refine z0R rfl rfl ?_
   refine z0E ?_
   refine z4G rfl ?_
   exact z1F hx.symm m6
  ·simp only [if_true] at hx
   refine z0E ?_
   refine z0P rfl rfl hb6 z1C ?_
   refine z0E ?_
   exact z1G (z1K rfl (z0C hb6)) (z4X (z0U _ _ _ _).symm hx.symm (m6.own (Nat.le_refl _) (by omega)))
 rw [b4] at hx
 simp only [Bool.false_eq_true,if_false] at hx
 have e92:((c.toNat:Int)==92)=(c==92):=z3M c 92
 have e60:((c.toNat:Int)==60)=(c==60):=z3M c 60
 refine z0E ?_
 rw [e92]
 cases b5:(c==92)
 rotate_left
 ·rw [b5] at hx
  simp only [if_true] at hx
  refine z0E ?_
  refine z0R rfl rfl ?_
  refine z0P rfl rfl hb3 rfl ?_
  refine z0E ?_
  exact fin rfl hx _ rfl
 rw [b5] at hx
 simp only [Bool.false_eq_true,if_false] at hx
 refine z0E ?_
 rw [e60]
 cases b6:(c==60)
 rotate_left
 ·rw [b6] at hx
  simp only [if_true] at hx
  have hl2:2≤t.length:=by
   have hc:c=60:=by simpa using b6
   rw [hc] at hcd
   unfold bgn at hbg
   rw [hcd] at hbg
   have e1:isAl 60=false:=by decide
   rw [e1] at hbg
   simp only [Bool.and_eq_true,Bool.or_false,Bool.or_eq_true,decide_eq_true_eq] at hbg
   rcases hbg.2 with h | h
   ·omega
   ·simp at h
  refine z0E ?_
  refine z3P rfl (by omega) (by omega) ?_
  refine st_slFT (i:=1) (j:=t.length-1) (by rfl) (by rfl) (by rfl) (by omega) (by omega) ?_
  refine z0R rfl rfl ?_
  refine z0P rfl rfl hb3 rfl ?_
  refine z0E ?_
  exact fin rfl hx _ rfl
 rw [b6] at hx
 simp only [Bool.false_eq_true,if_false] at hx
 refine z0E ?_
 refine z0R rfl rfl ?_
 refine z0P rfl rfl hb3 rfl ?_
 refine z0E ?_
 exact fin rfl hx _ rfl
theorem c238 (n:Nat) (hk:WOk n 190 .but):WOk (n+1) 174 .only:=by
 intro rid s p H hg hp hs hne
 have hrl:=(List.getElem?_eq_some_iff.1 hg).1
 simp only [pe] at hne ⊢
 generalize hx:(pe n .but s p).bind _=xx at hne ⊢
 refine ACall.sealed (n:=H.length) ?_
 refine is174.c1 z0W mixed rfl ?_
 rw [List.append_nil]
 have m0:Mod H rid (RB s p) (H++[B0]):=(Mod.refl hg).app _
 have hb0:(H++[B0])[H.length]? =some B0:=z0Q
 have hne1:pe n .but s p≠.oof:=fun e=>hne (by rw [←hx,e];rfl)
 refine z0E ?_
 refine z5D (args:=[.ptr rid 0]) (by rfl) (hk m0.get hp hs hne1) ?_ ?_
 rotate_left
 ·intro q H' he hm
  exact z1F (by rw [←hx,he];rfl) (m0.trans hm)
 intro op t nl l q H1 he hm
 obtain ⟨a1,a2,_,a4⟩:=pe_ok _ _ _ _ _ rfl he hp
 simp only at a1 a2
 rw [he,z0N] at hx
 simp only at hx
 have hb1:=hm.old _ _ (by omega) hb0
 have m1:=m0.trans hm
 refine z1Q ?_
 refine z1H rfl rfl rfl rfl rfl z1C ?_
 have m2:=m1.app [Blk.cells [.int .i64 op,.str t,lst nl l]]
 have hb2:=z0H (G:=[Blk.cells [.int .i64 op,.str t,lst nl l]]) hb1
 have h3:(H1++[Blk.cells [.int .i64 op,.str t,lst nl l]])[H1.length]? =some (.cells [.int .i64 op,.str t,lst nl l]):=z0Q
 have hl1:=(List.getElem?_eq_some_iff.1 hb1).1
 generalize (H1++[Blk.cells [.int .i64 op,.str t,lst nl l]]:Heap)=H2 at *
 generalize H1.length=i3 at *
 clear hm m1 hb1 hb0 m0 he a1 a4 hne1
 clear hg H1
 refine z0E ?_
 refine st_tak (by rfl) m2.get a2 hs ?_ ?_
 rotate_left
 ·intro q' H' ht hm2
  exact z1F (by rw [←hx,ht];rfl) (m2.trans hm2)
 intro y q3 H3 ht hq3 hg3 hm3
 rw [ht,z0N] at hx
 simp only at hx
 have m3:=m2.trans hm3
 have hb3:=hm3.old _ _ (by omega) hb2
 have h33:=hm3.old _ _ (by omega) h3
 clear hm3 m2 hb2 h3 ht
 refine z0E ?_
 cases y
 ·simp only [Bool.false_eq_true,if_false] at hx
  refine z0E ?_
  refine z0P rfl rfl hb3 z1C ?_
  refine z0E ?_
  exact z1G (z1K rfl (z0C hb3)) (z4X (z0U _ _ _ _).symm hx.symm (m3.own (Nat.le_refl _) (by omega)))
 simp only [if_true] at hx
 refine z0E ?_
 refine z0R (out:=[.int .i64 2,.str [],.nilslice]) rfl rfl ?_
 refine z0R (out:=[.int .i64 2,.str [],.nilslice]) rfl rfl ?_
 refine z1Q ?_
 refine z1Q ?_
 have hl3:=(List.getElem?_eq_some_iff.1 h33).1
 have h40:(H3++[B0])[H3.length]? =some B0:=z0Q
 have h50:(H3++[B0]++[B0])[(H3++[B0]:Heap).length]? =some B0:=z0Q
 have h5n:(H3++[B0]:Heap).length=H3.length+1:=by simp
 rw [h5n] at h50 ⊢
 have h40':=z0H (G:=[B0]) h40
 have m4:=(m3.app [B0]).app [B0]
 have hb4:=z0H (G:=[B0]) (z0H (G:=[B0]) hb3)
 have h34:=z0H (G:=[B0]) (z0H (G:=[B0]) h33)
 refine z0P rfl rfl h40' rfl ?_
 have h41:=z0C (y:=.cells [.int .i64 2,.str [],.nilslice]) h40'
 have h51:=z0A (y:=.cells [.int .i64 2,.str [],.nilslice]) (b:=H3.length) h50 (by omega)
 have m5:Mod H rid (RB s q3) ((H3++[B0]++[B0]).set H3.length (.cells [.int .i64 2,.str [],.nilslice])):=m4.own (by omega) (by omega)
 have hb5:=z0A (y:=.cells [.int .i64 2,.str [],.nilslice]) (b:=H3.length) hb4 (by omega)
 have h35:=z0A (y:=.cells [.int .i64 2,.str [],.nilslice]) (b:=H3.length) h34 (by omega)
 refine z0P rfl rfl h51 rfl ?_
 have h42:=z0A (y:=.cells [.int .i64 2,.str [],.nilslice]) (b:=H3.length+1) h41 (by omega)
 have h52:=z0C (y:=.cells [.int .i64 2,.str [],.nilslice]) h51
 have m6:=m5.own (x:=.cells [.int .i64 2,.str [],.nilslice]) (id:=H3.length+1) (by omega) (by omega)
 have hb6:=z0A (y:=.cells [.int .i64 2,.str [],.nilslice]) (b:=H3.length+1) hb5 (by omega)
 have h36:=z0A (y:=.cells [.int .i64 2,.str [],.nilslice]) (b:=H3.length+1) h35 (by omega)
 generalize ((H3++[B0]++[B0]).set H3.length (.cells [.int .i64 2,.str [],.nilslice])).set (H3.length+1) (.cells [.int .i64 2,.str [],.nilslice])=H4 at *
 generalize H3.length=i4 at *
 clear h40 h50 h5n h40' m4 hb4 h34 h41 h51 m5 hb5 h35 hb3 h33 m3 hg3
 clear H3 H2
 refine z0E ?_
 refine st_tk (by rfl) m6.get hq3 hs ?_ ?_
 rotate_left
 ·intro H' ht hm2
  exact z1F (by rw [←hx,ht];rfl) (m6.trans hm2)
 intro u H5 ht hul hg5 hm5
 rw [ht,z0N] at hx
 simp only at hx
 have m7:=m6.trans hm5
 have hb7:=hm5.old _ _ (by omega) hb6
 have h37:=hm5.old _ _ (by omega) h36
 have h47:=hm5.old _ _ (by omega) h42
 have h57:=hm5.old _ _ (by omega) h52
 have hq5:skp s q3≤s.length:=by omega
 clear m6 hb6 h36 h42 h52 hm5 ht hul hg5
 clear H4
 generalize skp s q3=q5 at *
 refine z0E ?_
 refine wi_cut (fun al' H'=>∃ op2 t2 nl2 l2 q6 tl,al'=(0,.ptr rid 0)::(2,.ptr H.length 0)::(3,.ptr i3 0)::(4,.ptr i4 0)::(5,.ptr (i4+1) 0)::tl∧Mod H rid (RB s q6) H'∧q6≤s.length∧H'[H.length]? =some B0 ∧
  H'[i3]? =some (.cells [.int .i64 op,.str t,lst nl l])∧H'[i4]? =some (.cells [.int .i64 op2,.str t2,lst nl2 l2])∧H'[i4+1]? =some (.cells [.int .i64 2,.str [],.nilslice]) ∧
  ((tak [95] s q6).bind fun z=>if z.1 then (tkn s z.2).bind fun u=>(if u.1==[]||u.1==[93] then .ok (lf 2,u.2) else pe n .but s u.2).bind fun r=>.ok (nd 14 [.mk op t nl l,.mk op2 t2 nl2 l2,r.1],r.2) else .bad)=xx) ?_ ?_
 ·cases b1:(u==[95])
  ·rw [b1] at hx
   simp only [Bool.false_eq_true,if_false] at hx
   have hne2:pe n .but s q5≠.oof:=fun e=>hne (by rw [←hx,e];rfl)
   refine z0E ?_
   refine z5D (args:=[.ptr rid 0]) (by rfl) (hk m7.get hq5 hs hne2) ?_ ?_
   rotate_left
   ·intro q H' he hm
    exact z1F (by rw [←hx,he];rfl) (m7.trans hm)
   intro op2 t2 nl2 l2 q6 H6 he hm
   obtain ⟨a1,a2',_,a4⟩:=pe_ok _ _ _ _ _ rfl he hq5
   simp only at a1 a2'
   rw [he,z0N] at hx
   simp only at hx
   have h48:=hm.old _ _ (by omega) h47
   refine z0P rfl rfl h48 z1C ?_
   refine z0E ?_
   exact ⟨op2,t2,nl2,l2,q6,_,rfl,(m7.trans hm).own (by omega) (by omega),a2',z0A (hm.old _ _ (by omega) hb7) (by omega),z0A (hm.old _ _ (by omega) h37) (by omega),z0C h48,z0A (hm.old _ _ (by omega) h57) (by omega),hx⟩
  ·rw [b1] at hx
   simp only [if_true,z0N] at hx
   refine z0E ?_
   exact ⟨2,[],true,[],q5,_,rfl,m7,hq5,hb7,h37,h47,h57,hx⟩
 clear hx m7 hb7 h37 h47 h57 hq5 H5
 rintro _ H5 ⟨op2,t2,nl2,l2,q6,tl,rfl,m7,hq6,hb7,h37,h47,h57,hx⟩
 refine z0E ?_
 refine st_tak (by rfl) m7.get hq6 hs ?_ ?_
 rotate_left
 ·intro q' H' ht hm2
  exact z1F (by rw [←hx,ht];rfl) (m7.trans hm2)
 intro z q7 H7 ht hq7 hg7 hm7
 rw [ht,z0N] at hx
 simp only at hx
 have m8:=m7.trans hm7
 have hb8:=hm7.old _ _ (by omega) hb7
 have h38:=hm7.old _ _ (by omega) h37
 have h48:=hm7.old _ _ (by omega) h47
 have h58:=hm7.old _ _ (by omega) h57
 clear m7 hb7 h37 h47 h57 hm7 ht
 refine z0E ?_
 cases z
 ·simp only [Bool.false_eq_true,if_false] at hx
  refine z0E ?_
  refine z0R rfl rfl ?_
  refine z0E ?_
  refine z4G rfl ?_
  exact z1F hx.symm m8
 simp only [if_true] at hx
 refine z0E ?_
 refine st_tk (by rfl) m8.get hq7 hs ?_ ?_
 rotate_left
 ·intro H' ht hm2
  exact z1F (by rw [←hx,ht];rfl) (m8.trans hm2)
 intro u H8 ht hul hg8 hm8
 rw [ht,z0N] at hx
 simp only at hx
 have m9:=m8.trans hm8
 have hb9:=hm8.old _ _ (by omega) hb8
 have h39:=hm8.old _ _ (by omega) h38
 have h49:=hm8.old _ _ (by omega) h48
 have h59:=hm8.old _ _ (by omega) h58
 have hq8:skp s q7≤s.length:=by omega
 clear m8 hb8 h38 h48 h58 hm8 ht hul hg8 hg7
 clear H7
 generalize skp s q7=q8 at *
 refine z0E ?_
 refine z3Y [(0,.ptr rid 0),(2,.ptr H.length 0),(3,.ptr i3 0),(4,.ptr i4 0),(5,.ptr (i4+1) 0),(36,.bool (!(u==[]||u==[93])))] H8 ?_ ?_
 ·cases b1:(u==[])
  ·refine z0E ?_
   cases b2:(u==[93])
   ·refine z0E ?_
    exact z0Z rfl rfl
   ·refine z0E ?_
    exact z0Z rfl rfl
  ·refine z0E ?_
   exact z0Z rfl rfl
 refine z0E ?_
 refine wi_cut (fun al' H'=>∃ op3 t3 nl3 l3 q9,(al'=[(2,.ptr H.length 0),(3,.ptr i3 0),(4,.ptr i4 0),(5,.ptr (i4+1) 0)]∨al'=[(0,.ptr rid 0),(2,.ptr H.length 0),(3,.ptr i3 0),(4,.ptr i4 0),(5,.ptr (i4+1) 0),(36,.bool false)])∧Mod H rid (RB s q9) H'∧H'[H.length]? =some B0 ∧
  H'[i3]? =some (.cells [.int .i64 op,.str t,lst nl l])∧H'[i4]? =some (.cells [.int .i64 op2,.str t2,lst nl2 l2])∧H'[i4+1]? =some (.cells [.int .i64 op3,.str t3,lst nl3 l3]) ∧
  PR.ok (nd 14 [.mk op t nl l,.mk op2 t2 nl2 l2,.mk op3 t3 nl3 l3],q9)=xx) ?_ ?_
 ·cases b1:(u==[]||u==[93])
  ·rw [b1] at hx
   simp only [Bool.false_eq_true,if_false] at hx
   have hne2:pe n .but s q8≠.oof:=fun e=>hne (by rw [←hx,e];rfl)
   refine z0E ?_
   refine z5D (args:=[.ptr rid 0]) (by rfl) (hk m9.get hq8 hs hne2) ?_ ?_
   rotate_left
   ·intro q H' he hm
    exact z1F (by rw [←hx,he];rfl) (m9.trans hm)
   intro op3 t3 nl3 l3 q9 H9 he hm
   rw [he,z0N] at hx
   simp only at hx
   have h510:=hm.old _ _ (by omega) h59
   refine z0P rfl rfl h510 z1C ?_
   refine z0E ?_
   exact ⟨op3,t3,nl3,l3,q9,.inl rfl,(m9.trans hm).own (by omega) (by omega),z0A (hm.old _ _ (by omega) hb9) (by omega),z0A (hm.old _ _ (by omega) h39) (by omega),z0A (hm.old _ _ (by omega) h49) (by omega),z0C h510,hx⟩
  ·rw [b1] at hx
   simp only [if_true,z0N] at hx
   refine z0E ?_
   exact ⟨2,[],true,[],q8,.inr rfl,m9,hb9,h39,h49,h59,hx⟩
 clear hx m9 hb9 h39 h49 h59 hq8 H8
 rintro al9 H8 ⟨op3,t3,nl3,l3,q9,ha,m9,hb9,h39,h49,h59,hx⟩
 have hl9:=(List.getElem?_eq_some_iff.1 hb9).1
 have m10:=m9.app [.cells (flatE [.mk op t nl l,.mk op2 t2 nl2 l2,.mk op3 t3 nl3 l3])]
 have hb10:=z0H (G:=[.cells (flatE [.mk op t nl l,.mk op2 t2 nl2 l2,.mk op3 t3 nl3 l3])]) hb9
 have e1:flatE [.mk op t nl l,.mk op2 t2 nl2 l2,.mk op3 t3 nl3 l3]=[.int .i64 op,.str t,lst nl l,.int .i64 op2,.str t2,lst nl2 l2,.int .i64 op3,.str t3,lst nl3 l3]:=by
  rw [show ([Ex.mk op t nl l,.mk op2 t2 nl2 l2,.mk op3 t3 nl3 l3]:List Ex)=[Ex.mk op t nl l]++[Ex.mk op2 t2 nl2 l2]++[Ex.mk op3 t3 nl3 l3] from rfl,z2R,z2R,z0Y,z0Y,z0Y];rfl
 rcases ha with rfl | rfl
 all_goals
  refine z0E ?_
  refine z0V (out:=flatE [.mk op t nl l,.mk op2 t2 nl2 l2,.mk op3 t3 nl3 l3]) (by rw [e1];rfl) ?_
  refine z0E ?_
  refine z0R (out:=[.int .i64 14,.str [],.sl H8.length 0 3 3]) rfl rfl ?_
  refine z0P rfl rfl hb10 rfl ?_
  refine z0E ?_
  exact z1G (z1K rfl (z0C hb10)) (fin_node (l:=[.mk op t nl l,.mk op2 t2 nl2 l2,.mk op3 t3 nl3 l3]) hx.symm (z0A z0Q (by omega)) (by omega) (m10.own (Nat.le_refl _) (by omega)) hrl)
def nps:Nat→List Pr→Nat
 | n,[]=>n
 | n,p::ps=>if n≤24000 then nps (n+nww (nww 0 p.a.l) p.b.l) ps else n
def nls:Nat→List Pl→Nat
 | n,[]=>n
 | n,p::ps=>if n≤24000 then nls (n+(nf p.1+nf p.2)) ps else n
def overR (r:Ru):Bool:=decide ((nls (nps (r.pairs.length+r.places.length) r.pairs) r.places:Int)>24000)
theorem nww_le {a b:List Bt} (ha:okT a) (hb:okT b):nww (nww 0 a) b≤2000000000000:=by
 have h1:=nw_le (0+a.length) a
 have h2:=nw_le (nww 0 a+b.length) b
 have e1:nww 0 a=nw (0+a.length) a:=rfl
 have e2:nww (nww 0 a) b=nw (nww 0 a+b.length) b:=rfl
 omega
theorem c10 (r:Ru) (hr:okR r) (ht:∀ p∈r.pairs,okT p.a.l∧okT p.b.l) (H:Heap):ACall PP 4 [encR r] H (Just H (.bool (overR r))):=by
 obtain ⟨kind,pn,pairs,ln,places,below⟩:=r
 obtain ⟨hnp,hnl,hps,hls⟩:=hr
 simp only at hnp hnl hps hls ht
 have hsp:=sl_Ps pn pairs
 have hsl:=sl_Ls ln places
 have hlp:(pairs.map encP).length=pairs.length:=List.length_map _
 have hll:(places.map encPl).length=places.length:=List.length_map _
 have hv:overR ⟨kind,pn,pairs,ln,places,below⟩=decide ((nls (nps (pairs.length+places.length) pairs) places:Int)>24000):=rfl
 rw [hv]
 unfold encR
 refine ACall.gives (is4.c1 z0W mixed rfl ?_)
 refine z0G ?_
 refine z2J (a:=(pairs.map encP).length) (b:=(places.map encPl).length) (by rfl) (by rfl) (by omega) ?_
 rw [hlp,hll]
 refine z0G ?_
 refine z1B pairs.length (fun i al H'=>∃ n:Nat,al=[(1,.ptr (H.length+0) 0),(3,.int .i64 n),(4,.int .i64 i)]∧Ext H H'∧H'[H.length+0]? =some (.cells [.int .i64 kind,encPs pn pairs,encLs ln places,.bool below]) ∧
  n≤3000000000000∧nps (pairs.length+places.length) pairs=nps n (pairs.drop i)) ⟨_,rfl,⟨_,rfl⟩,hp_new,by omega,rfl⟩ ?_
 rintro i _ H1 hi ⟨n,rfl,hx,hB,hnb,hvp⟩
 have hlt0:H.length+0<H1.length:=(List.getElem?_eq_some_iff.1 hB).1
 have hokp:∀ off,okRd H1.length (.ptr (H.length+0) off)=true:=by intro off;simp [okRd,Nat.blt_eq];simpa using hlt0
 refine z0G ?_
 cases hc:decide ((i:Int)<((pairs.map encP).length:Int))
 ·simp only [decide_eq_false_iff_not] at hc
  rw [List.drop_of_length_le (by omega)] at hvp
  have hvp:nps (pairs.length+places.length) pairs=n:=hvp
  rw [hvp]
  clear hvp hlt0 hokp
  refine z0G ?_
  refine z1B places.length (fun i al H'=>∃ n2:Nat,al=[(1,.ptr (H.length+0) 0),(3,.int .i64 n2),(5,.int .i64 i)]∧H'=H1∧n2≤3000000000000∧nls n places=nls n2 (places.drop i)) ⟨_,rfl,rfl,hnb,rfl⟩ ?_
  rintro i _ _ hi ⟨n2,rfl,rfl,hnb2,hvp⟩
  refine z0G ?_
  cases hc:decide ((i:Int)<((places.map encPl).length:Int))
  ·simp only [decide_eq_false_iff_not] at hc
   rw [List.drop_of_length_le (by omega)] at hvp
   have hvp:nls n places=n2:=hvp
   rw [hvp]
   refine z0G ?_
   exact z1G rfl (z0M hx (Plain.bool _))
  ·simp only [decide_eq_true_eq] at hc
   obtain ⟨c,hcg⟩:=z1E (l:=places) (i:=i) (by omega)
   have hok:=hls _ (List.mem_of_getElem? hcg)
   have hu:=getmap (f:=encPl) hcg
   rw [z3K hcg] at hvp
   simp only [nls] at hvp
   refine z0G ?_
   refine z0T _ rfl ?_ ?_<;>intro hq
   ·simp only [decide_eq_true_eq] at hq
    rw [if_pos (by omega)] at hvp
    have k1:=fun H=>c25 c.1 hok.1 H
    have k2:=fun H=>c25 c.2 hok.2 H
    have b1:=nf_le c.1
    have b2:=nf_le c.2
    unfold okE at hok
    generalize nf c.1=f1 at *
    generalize nf c.2=f2 at *
    obtain ⟨⟨o1,s1,n1,l1⟩,⟨o2,s2,n2',l2⟩⟩:=c
    unfold encPl at hu
    simp only [z0U] at k1 k2 hu
    refine z0G ?_
    refine z0F rfl (k1 _) ?_
    refine z0G ?_
    refine z0F rfl (k2 _) ?_
    refine z0G ?_
    refine z2J (a:=f1) (b:=f2) (by rfl) (by rfl) (by omega) ?_
    refine z0G ?_
    refine z2J (a:=n2) (b:=f1+f2) (by rfl) (by rfl) (by omega) ?_
    refine z0G ?_
    exact ⟨by omega,_,rfl,rfl,by omega,hvp⟩
   ·simp only [decide_eq_false_iff_not] at hq
    rw [if_neg (by omega)] at hvp
    rw [hvp]
    refine z0G ?_
    exact z1G rfl (z0M hx (Plain.bool _))
 ·simp only [decide_eq_true_eq] at hc
  obtain ⟨c,hcg⟩:=z1E (l:=pairs) (i:=i) (by omega)
  have hm:=List.mem_of_getElem? hcg
  have hu:(pairs.map encP)[i]? =some (.agg [encW c.a,encW c.b]):=getmap (f:=encP) hcg
  have htc:=ht c hm
  have hwb:=nww_le htc.1 htc.2
  rw [z3K hcg] at hvp
  simp only [nps] at hvp
  refine z0G ?_
  refine z0T _ rfl ?_ ?_<;>intro hq
  ·simp only [decide_eq_true_eq] at hq
   rw [if_pos (by omega)] at hvp
   refine walkN ?_
   refine iw_drawT H1.length ?_
   refine walkT ?_
   refine vt_b rfl rfl (Nat.le_refl _) ?_
   refine z0V (out:=[encW c.a,encW c.b]) fill2W ?_
   refine z5E (ext_rd (.refl _) ⟨_,rfl⟩) ?_
   refine vt_b rfl rfl (by simp) ?_
   refine z0F rfl (c24 htc.1 htc.2 (by rw [List.getElem?_append_right (Nat.le_refl _),Nat.sub_self];rfl)) ?_
   refine z5E (fun _ _ _ _ h=>h) ?_
   generalize nww (nww 0 c.a.l) c.b.l=f1 at *
   refine walkT ?_
   refine z2J (a:=n) (b:=f1) (by rfl) (by rfl) (by omega) ?_
   refine walkT ?_
   refine z0G ?_
   exact ⟨by omega,_,rfl,hx.app _,z0H hB,by omega,hvp⟩
  ·simp only [decide_eq_false_iff_not] at hq
   rw [if_neg (by omega)] at hvp
   rw [hvp]
   clear hvp hlt0 hokp
   refine z0G ?_
   refine z1B places.length (fun i al H'=>∃ n2:Nat,al=[(1,.ptr (H.length+0) 0),(3,.int .i64 n2),(5,.int .i64 i)]∧H'=H1∧n2=n) ⟨_,rfl,rfl,rfl⟩ ?_
   rintro i _ _ hi ⟨n2,rfl,rfl,rfl⟩
   have hn3:nls n2 places=n2:=by
    cases places with
    | nil=>rfl
    | cons p ps=>simp only [nls];rw [if_neg (by omega)]
   have hq3:decide ((n2:Int)≤24000)=false:=by simp only [decide_eq_false_iff_not];omega
   rw [hn3]
   refine z0G ?_
   cases hc3:decide ((i:Int)<((places.map encPl).length:Int))
   ·refine z0G ?_
    exact z1G rfl (z0M hx (Plain.bool _))
   ·refine z0G ?_
    exact z1G rfl (z0M hx (Plain.bool _))
end Go.Ab
