/- Part 48 of the proof. -/
import Derived.Test.YteaellpidegbiaaGreatDoorA47
set_option linter.unusedVariables false
set_option linter.unusedSimpArgs false
namespace Go.Ab
open Go
set_option maxRecDepth 100000
set_option maxHeartbeats 8000000
abbrev C4 (kd:Int) (pv lv:AV) (b:Bool):Blk:=.cells [.int .i64 kd,pv,lv,.bool b]
theorem placeR_le {ps:List Bt} {a b:Ex} {fa fb:Int} {k:Nat} (h:placeR ps=some (a,b,fa,fb,k)):k≤ps.length:=by
 unfold placeR at h
 split at h
 ·cases h
 ·rename_i a1 f1 k1 h1
  split at h
  ·rename_i hc
   split at h
   ·cases h
   ·rename_i b1 f2 k2 h2
    have:=sideR_le h2
    rw [List.length_drop] at this
    simp only [Bool.and_eq_true,decide_eq_true_eq] at hc
    injection h with h;injection h with _ h;injection h with _ h;injection h with _ h;injection h with _ h
    omega
  ·cases h
theorem c22 {rid:Nat} {l:List Bt} {H:Heap} (hg:H[rid]? =some (RF l 0 0 false)) (hl:l.length≤10000) (hls:∀ y∈l,y.length≤6000) (hj:∀ q,(Lib.join (l.drop q) [32]).length≤6000) :
  ACall PP 22 [.ptr rid 0] H (Ends (RwS H rid l (wholeR l)) (fun _ _=>False)):=by
 have hrl:=(List.getElem?_eq_some_iff.1 hg).1
 refine ACall.sealed (n:=H.length) ?_
 refine is22.c1 z0V mixed rfl ?_
 rw [List.append_nil]
 have hlj:∀ (j:Nat) (b:Blk),H[j]? =some b→j<H.length:=fun j b h=>(List.getElem?_eq_some_iff.1 h).1
 have hsl2:(l.map AV.str).length=l.length:=List.length_map _
 have hsl:=sl_strs l
 have hw:wholeR l=match prR l (l.length+1) 0 (-1) [] false with
  | none=>none
  | some (kd,prs,q,lg) =>
   if q==l.length then some (⟨kd,true,prs,true,[],false⟩,0,lg)
   else if decide (q<l.length)&&l.getD q []==[47,47] then match plsR (l.length+1) (l.drop (q+1)) [] 0 with
    | none=>none
    | some (ps,bad)=>some (⟨kd,true,prs,true,ps,true⟩,bad,lg)
   else if decide (q<l.length)&&l.getD q []==[124,124] then match plsR (l.length+1) (l.drop (q+1)) [] 0 with
    | none=>none
    | some (ps,bad)=>some (⟨kd,true,prs,true,ps,false⟩,bad,lg)
   else none:=rfl
 generalize wholeR l=xx at *
 generalize hx:prR l (l.length+1) 0 (-1) [] false=x1 at *
 refine z0B ?_
 refine z0L (out:=[.int .i64 (-1),.nilslice,.nilslice,.bool false]) rfl rfl ?_
 refine z1M ?_
 have hl1:(H++[Blk.cells Z4]:Heap).length=H.length+1:=by simp
 rw [hl1]
 have g0:(H++[Blk.cells Z4]++[Blk.cells Z4]:Heap)[H.length]? =some (.cells Z4):=z0F z0K
 have g1:(H++[Blk.cells Z4]++[Blk.cells Z4]:Heap)[H.length+1]? =some (.cells Z4):=by rw [←hl1];exact z0K
 have mg:Mod H rid (RF l 0 0 false) (H++[Blk.cells Z4]++[Blk.cells Z4]):=((Mod.refl hg).app _).app _
 have gl:(H++[Blk.cells Z4]++[Blk.cells Z4]:Heap).length=H.length+2:=by simp
 generalize (H++[Blk.cells Z4]++[Blk.cells Z4]:Heap)=X at *
 refine z0Z (k:=4) (ws:=[.int .i64 (-1),.nilslice,.nilslice,.bool false]) rfl rfl g1 rfl rfl rfl ?_
 have f0:=z0A (y:=C4 (-1) .nilslice .nilslice false) (b:=H.length+1) g0 (by omega)
 have f1:=z0C (y:=C4 (-1) .nilslice .nilslice false) g1
 have mf:Mod H rid (RF l 0 0 false) (X.set (H.length+1) (C4 (-1) .nilslice .nilslice false)):=mg.own (by omega) (by omega)
 have fl:(X.set (H.length+1) (C4 (-1) .nilslice .nilslice false)).length=H.length+2:=by rw [List.length_set,gl]
 generalize X.set (H.length+1) (C4 (-1) .nilslice .nilslice false)=Y at *
 clear g0 g1 mg gl hl1 X
 refine z0B ?_
 refine wi_cutB (fun al' H'=>∃ (p:Nat) (kd:Int) (prs:List Pr) (pv:AV) (lg:Bool) (tl:AL),al'=(0,.ptr rid 0)::(2,.ptr H.length 0)::(4,.ptr (H.length+1) 0)::tl∧Mod H rid (RF l p 0 lg) H'∧H'[H.length]? =some (.cells Z4)∧H'[H.length+1]? =some (C4 kd pv .nilslice false) ∧
  OwnL 2 (H.length+2) H' pv (prs.map encP)∧p≤l.length∧prs≠[]∧prs.length≤100000∧x1=some (kd,prs,p,lg)) ?_ ?_
 ·refine z1S (fun m al H'=>∃ (p:Nat) (kd:Int) (prs:List Pr) (pv:AV) (lg:Bool),al=[(0,.ptr rid 0),(2,.ptr H.length 0),(4,.ptr (H.length+1) 0)]∧Mod H rid (RF l p 0 lg) H'∧H'[H.length]? =some (.cells Z4)∧H'[H.length+1]? =some (C4 kd pv .nilslice false) ∧
   OwnL 2 (H.length+2) H' pv (prs.map encP)∧p≤l.length∧prs.length≤p∧l.length+1≤p+m∧prR l m p kd prs lg=x1) (l.length+1)
   ⟨0,-1,[],_,false,rfl,mf,f0,f1,.nil,by omega,by simp,by omega,hx⟩ ?_
  clear f0 f1 mf fl hx Y
  rintro m _ V ⟨p,kd,prs,pv,lg,rfl,hm,h0,h1,hO,hp,hpl,hpm,hx⟩
  cases m with
  | zero=>omega
  | succ m =>
  rw [prR] at hx
  have hsc0:∀ k:Int,([.int .i64 k,pv,.nilslice,.bool false]:List AV).all AV.scalar=true:=fun k=>by
   simp only [List.all_cons,hO.scalar,List.all_nil];rfl
  have hq1:=pcA_le (l:=l) hp
  have hq2:=pcA_le hq1
  have hq3:=pcA_le hq2
  have hq3p:decide (p<l.length)=true→decide (pcA l p<l.length)=true→decide (pcA l (pcA l p)<l.length)=true→p+1≤pcA l (pcA l (pcA l p)):=by
   intro a b c
   simp only [decide_eq_true_eq] at a b c
   unfold pcA at *
   rw [if_pos a] at *
   rw [if_pos b] at *
   rw [if_pos c];omega
  refine z0B ?_
  refine z1H rfl (c57 hm.get hp (by omega) hls) ?_ ?_
  rotate_left
  ·rintro v H' ⟨h,_⟩;cases h
  rintro v V1 ⟨h,hm1⟩
  cases h
  have k0:=hm1.old _ _ (by omega) h0
  have k1:=hm1.old _ _ (by omega) h1
  have kO:OwnL 2 (H.length+2) V1 pv (prs.map encP):=hO.mono fun j b hj h=>hm1.old _ _ (by omega) h
  have km:=hm.trans hm1
  clear hm hm1 h0 h1 hO V
  generalize pcA l (pcA l (pcA l p))=p3 at *
  generalize (lg||decide (((l.getD p []).length:Int)>400)||decide (((l.getD (pcA l (pcA l p)) []).length:Int)>400))=lg' at *
  have hok:(decide (p<l.length)&&decide (pcA l p<l.length)&&decide (pcA l (pcA l p)<l.length)&&wkR (l.getD p [])&&wkR (l.getD (pcA l (pcA l p)) [])&&decide (kOf (l.getD (pcA l p) [])≥0))=true→p+1≤p3:=by
   intro h
   simp only [Bool.and_eq_true] at h
   exact hq3p h.1.1.1.1.1 h.1.1.1.1.2 h.1.1.1.2
  clear hq3p hq1 hq2
  generalize (decide (p<l.length)&&decide (pcA l p<l.length)&&decide (pcA l (pcA l p)<l.length)&&wkR (l.getD p [])&&wkR (l.getD (pcA l (pcA l p)) [])&&decide (kOf (l.getD (pcA l p) [])≥0))=okb at *
  generalize wdR (l.getD p [])=w1 at *
  generalize wdR (l.getD (pcA l (pcA l p)) [])=w2 at *
  generalize kOf (l.getD (pcA l p) [])=k at *
  refine z0B ?_
  refine z0T rfl rfl rfl rfl rfl all_W ?_
  have h5:(V1++[Blk.cells [encW w1,encW w2]])[V1.length]? =some (.cells [encW w1,encW w2]):=z0K
  have k0:=z0F (G:=[Blk.cells [encW w1,encW w2]]) k0
  have k1:=z0F (G:=[Blk.cells [encW w1,encW w2]]) k1
  have kO:=kO.app [Blk.cells [encW w1,encW w2]]
  have km:=km.app [Blk.cells [encW w1,encW w2]]
  have hi5:=(List.getElem?_eq_some_iff.1 ‹V1[H.length+1]? =some _›).1
  generalize (V1++[Blk.cells [encW w1,encW w2]]:Heap)=V2 at *
  generalize V1.length=i5 at *
  refine z0B ?_
  refine z1Y [(0,.ptr rid 0),(2,.ptr H.length 0),(4,.ptr (H.length+1) 0),(5,.ptr i5 0),(6,.int .i64 k),(29,.bool (!okb||(decide (kd≥0)&&kd != k)))] V2 ?_ ?_
  ·cases okb
   ·refine z0B ?_
    exact z0S rfl rfl
   ·refine z0B ?_
    cases b2:decide (kd≥0)
    ·refine z0B ?_
     exact z0S rfl rfl
    ·refine z0B ?_
     exact z0S rfl rfl
  cases hbad:(!okb||(decide (kd≥0)&&kd != k))
  rotate_left
  ·rw [hbad] at hx
   simp only [if_true] at hx
   rw [←hx] at hw
   simp only at hw
   refine z0B ?_
   refine z0L (out:=Z4) rfl rfl ?_
   refine z0Z (k:=4) (ws:=Z4) rfl rfl k0 rfl rfl rfl ?_
   refine z0B ?_
   exact z1G (res22 rfl rfl (z0C k0) rfl) (fail22 hw rfl fun j b h1 h2=>z0A (km.old _ _ h1 h2) (by have:=hlj j b h2;omega))
  rw [hbad] at hx
  simp only [Bool.false_eq_true,if_false] at hx
  have hp3:=hok (by cases okb with | true=>rfl | false=>cases hbad)
  clear hbad hok
  refine z0B ?_
  refine z0P (v:=.int .i64 k) rfl rfl k1 rfl (by simp) ?_
  show VV _ _ _ (V2.set (H.length+1) (C4 k pv .nilslice false)) _ _
  have r0:=z0A (y:=C4 k pv .nilslice false) (b:=H.length+1) k0 (by omega)
  have r1:=z0C (y:=C4 k pv .nilslice false) k1
  have r5:=z0A (y:=C4 k pv .nilslice false) (b:=H.length+1) h5 (by omega)
  have rO:OwnL 2 (H.length+2) (V2.set (H.length+1) (C4 k pv .nilslice false)) pv (prs.map encP):=kO.mono fun j b hj h=>z0A h (by omega)
  have rm:Mod H rid (RF l p3 0 lg') (V2.set (H.length+1) (C4 k pv .nilslice false)):=km.own (by omega) (by omega)
  have rl:H.length+2≤(V2.set (H.length+1) (C4 k pv .nilslice false)).length:=by
   have:=(List.getElem?_eq_some_iff.1 k1).1
   rw [List.length_set];omega
  generalize V2.set (H.length+1) (C4 k pv .nilslice false)=V3 at *
  clear k0 k1 h5 kO km V2
  generalize hpr:(⟨w1,w2⟩:Pr)=pr at *
  have hep:encP pr=.agg [encW w1,encW w2]:=by rw [←hpr];rfl
  refine z0B ?_
  refine z1A (out:=[encW w1,encW w2]) rfl ?_
  refine st_appL (lo:=H.length+2) (sz:=2) (l:=prs.map encP) (cs:=[encW w1,encW w2]) rfl rO rfl rfl all_W (by rw [List.length_map];omega) rl ?_
  intro v' W hO' hold' hlen
  rw [←hep,show prs.map encP++[encP pr]=(prs++[pr]).map encP by simp] at hO'
  have rmW:Mod H rid (RF l p3 0 lg') W:=⟨hold' _ _ (by omega) rm.get,fun j b h1 h2=>hold' _ _ (by have:=hlj j b h2;omega) (rm.old j b h1 h2),by have:=rm.len;omega⟩
  refine z0B ?_
  refine z0P (v:=v') rfl rfl (hold' _ _ (by omega) r1) hO'.scalar (by simp) ?_
  show VV _ _ _ (W.set (H.length+1) (C4 k v' .nilslice false)) _ _
  have t0:=z0A (y:=C4 k v' .nilslice false) (b:=H.length+1) (hold' _ _ (by omega) r0) (by omega)
  have t1:=z0C (y:=C4 k v' .nilslice false) (hold' _ _ (by omega) r1)
  have tO:OwnL 2 (H.length+2) (W.set (H.length+1) (C4 k v' .nilslice false)) v' ((prs++[pr]).map encP):=hO'.mono fun j b hj h=>z0A h (by omega)
  have tm:Mod H rid (RF l p3 0 lg') (W.set (H.length+1) (C4 k v' .nilslice false)):=rmW.own (by omega) (by omega)
  have hpn:prs++[pr]≠[]:=by simp
  have hpnl:(prs++[pr]).length≤p+1:=by simp;omega
  generalize W.set (H.length+1) (C4 k v' .nilslice false)=V4 at *
  generalize prs++[pr]=prs2 at *
  clear r0 r1 r5 rO rm rl hO' hold' hlen rmW hep hpr hsc0
  refine z0B ?_
  refine z1H rfl (c58 (t:=[44]) tm.get (by omega) (by omega)) ?_ ?_
  rotate_left
  ·rintro v H' ⟨h,_⟩;cases h
  rintro v H' ⟨h,rfl⟩
  cases h
  cases his:(decide (p3<l.length)&&l.getD p3 []==[44])
  ·rw [his] at hx
   simp only [Bool.false_eq_true,if_false] at hx ⊢
   have um:Mod H rid (RF l p3 0 lg') (V4.set rid (RF l p3 0 lg')):=tm.put
   have u0:=z0A (y:=RF l p3 0 lg') (b:=rid) t0 (by omega)
   have u1:=z0A (y:=RF l p3 0 lg') (b:=rid) t1 (by omega)
   have uO:OwnL 2 (H.length+2) (V4.set rid (RF l p3 0 lg')) v' (prs2.map encP):=tO.mono fun j b hj h=>z0A h (by omega)
   refine z0B ?_
   exact ⟨p3,k,prs2,v',lg',_,rfl,um,u0,u1,uO,hq3,hpn,by omega,hx.symm⟩
  ·rw [his] at hx
   simp only [if_true] at hx ⊢
   simp only [Bool.and_eq_true,decide_eq_true_eq] at his
   have um:Mod H rid (RF l (p3+1) 0 lg') (V4.set rid (RF l (p3+1) 0 lg')):=tm.put
   have u0:=z0A (y:=RF l (p3+1) 0 lg') (b:=rid) t0 (by omega)
   have u1:=z0A (y:=RF l (p3+1) 0 lg') (b:=rid) t1 (by omega)
   have uO:OwnL 2 (H.length+2) (V4.set rid (RF l (p3+1) 0 lg')) v' (prs2.map encP):=tO.mono fun j b hj h=>z0A h (by omega)
   refine z0B ?_
   exact ⟨m,by omega,p3+1,k,prs2,v',lg',rfl,um,u0,u1,uO,by omega,by omega,by omega,hx⟩
 clear f0 f1 mf fl hx Y
 rintro _ V ⟨p,kd,prs,pv,lg,tl,rfl,hm,h0,h1,hO,hp,hpn,hpl,rfl⟩
 simp only at hw
 have hg1:=hm.get
 have e1:((p:Int)==((l.map AV.str).length:Int))=(p==l.length):=by rw [hsl2];exact nat_eq _ _
 have hsc4:∀ b:Bool,([.int .i64 kd,pv,.nilslice,.bool b]:List AV).all AV.scalar=true:=fun b=>by
  simp only [List.all_cons,hO.scalar,List.all_nil];rfl
 refine z0B ?_
 rw [e1]
 cases hpe:(p==l.length)
 rotate_left
 ·rw [hpe] at hw
  simp only [if_true] at hw
  refine z0B ?_
  refine z0Z (k:=4) (ws:=[.int .i64 kd,pv,.nilslice,.bool false]) rfl rfl h0 rfl rfl (hsc4 _) ?_
  refine z0B ?_
  have hmx:Mod H rid (RF l p 0 lg) (V.set H.length (C4 kd pv .nilslice false)):=hm.own (Nat.le_refl _) (by omega)
  obtain ⟨o0,⟨o1,_⟩ | ⟨id,rfl,o3,o4,o5⟩⟩:=hO
  ·simp at o1;exact absurd o1 hpn
  exact z1G (res22 rfl rfl (z0C h0) rfl) (ok22 (lo2:=id+1) (ps:=[]) hw ⟨id,rfl,z0A o3 (by omega),by omega,by omega⟩ o0 .nil hpn hrl hmx.get hmx.old)
 rw [hpe] at hw
 simp only [Bool.false_eq_true,if_false] at hw
 have hpv:∃ id,pv=.sl id 0 (prs.map encP).length 2∧V[id]? =some (.cells (flat (prs.map encP)))∧H.length+2≤id:=by
  obtain ⟨o0,⟨o1,_⟩ | ⟨id,h1,o3,o4,o5⟩⟩:=hO
  ·simp at o1;exact absurd o1 hpn
  ·exact ⟨id,h1,o3,o4⟩
 have hp0:=hO.1
 have hpsc:=hO.scalar
 clear hO hsc4
 obtain ⟨id,hpvi,hid,hidl⟩:=hpv
 have hVl:=(List.getElem?_eq_some_iff.1 hid).1
 refine z0B ?_
 refine z1H rfl (c58 (t:=[47,47]) hm.get (by omega) (by omega)) ?_ ?_
 rotate_left
 ·rintro v H' ⟨h,_⟩;cases h
 rintro v H' ⟨h,rfl⟩
 cases h
 have loopH:∀ {b:Blk},((V.set rid b)[H.length]? =some (.cells Z4))∧((V.set rid b)[H.length+1]? =some (C4 kd pv .nilslice false))∧((V.set rid b)[id]? =some (.cells (flat (prs.map encP))))∧Mod H rid b (V.set rid b)∧(V.set rid b).length=V.length :=
  fun {b}=>⟨z0A h0 (by omega),z0A h1 (by omega),z0A hid (by omega),hm.put,List.length_set⟩
 have sset:∀ {K:Heap} {b:Blk} {bl:Bool},(K[H.length]? =some (.cells Z4))∧(K[H.length+1]? =some (C4 kd pv .nilslice false))∧(K[id]? =some (.cells (flat (prs.map encP))))∧Mod H rid b K∧K.length=V.length →
   ((K.set (H.length+1) (C4 kd pv .nilslice bl))[H.length]? =some (.cells Z4))∧((K.set (H.length+1) (C4 kd pv .nilslice bl))[H.length+1]? =some (C4 kd pv .nilslice bl))∧((K.set (H.length+1) (C4 kd pv .nilslice bl))[id]? =some (.cells (flat (prs.map encP))))∧Mod H rid b (K.set (H.length+1) (C4 kd pv .nilslice bl))∧(K.set (H.length+1) (C4 kd pv .nilslice bl)).length=V.length:=by
  rintro K b bl ⟨a1,a2,a3,a4,a5⟩
  exact ⟨z0A a1 (by omega),z0C a2,z0A a3 (by omega),a4.own (by omega) (by omega),by rw [List.length_set];exact a5⟩
 cases his:(decide (p<l.length)&&l.getD p []==[47,47])
 rotate_left
 ·rw [his] at hw
  simp only [if_true] at hw ⊢
  simp only [Bool.and_eq_true,decide_eq_true_eq] at his
  have q1:=loopH (b:=RF l (p+1) 0 lg)
  generalize V.set rid (RF l (p+1) 0 lg)=V2 at *
  have q2:=sset (bl:=true) q1
  refine z0B ?_
  refine z0P (v:=.bool true) rfl rfl q1.2.1 rfl (by simp) ?_
  show VV _ _ _ (V2.set (H.length+1) (C4 kd pv .nilslice true)) _ _
  generalize V2.set (H.length+1) (C4 kd pv .nilslice true)=V3 at *
  obtain ⟨z0,z1,zid,zm,zl⟩:=q2
  have hplt:=his.1
  clear q1 sset loopH his h0 h1 hid hm hg1
  refine z0B ?_
  generalize hyy:plsR (l.length+1) (l.drop (p+1)) [] 0=yy at *
  have hps:1≤l.length+1:=by omega
  refine z1S (fun m al H'=>∃ (q:Nat) (ps:List Pl) (lv:AV) (bad:Int),al=[(0,.ptr rid 0),(2,.ptr H.length 0),(4,.ptr (H.length+1) 0)]∧Mod H rid (RF l q bad lg) H'∧H'[H.length]? =some (.cells Z4)∧H'[H.length+1]? =some (C4 kd pv lv true) ∧
   H'[id]? =some (.cells (flat (prs.map encP)))∧OwnL 6 V.length H' lv (ps.map encPl)∧V.length≤H'.length∧q≤l.length∧ps.length≤q∧l.length+1≤q+m∧plsR m (l.drop q) ps bad=yy) (l.length+1)
   ⟨p+1,[],_,0,rfl,zm,z0,z1,zid,.nil,by omega,by omega,by simp,by omega,hyy⟩ ?_
  clear zm z0 z1 zid zl hyy
  rintro m _ W ⟨q,ps,lv,bad,rfl,wm,w0,w1,wid,wO,wl,hq,hpsl,hqm,hyy⟩
  cases m with
  | zero=>omega
  | succ m =>
  rw [plsR] at hyy
  have hlsc:AV.scalar lv=true:=wO.scalar
  refine z0B ?_
  refine z1H rfl (c59 wm.get hq (by omega) hls (hj q)) ?_ ?_
  rotate_left
  ·intro v H' hv
   unfold PlP at hv
   cases hs:placeR (l.drop q) with
   | none=>rw [hs] at hv;obtain ⟨⟨cs,_,_,hv⟩,_⟩:=hv;cases hv
   | some x=>obtain ⟨a,b,fa,fb,k⟩:=x;rw [hs] at hv;cases hv.1
  intro v W1 hv
  unfold PlP at hv
  cases hs:placeR (l.drop q) with
  | none =>
   rw [hs] at hv hyy
   simp only at hv hyy
   rw [←hyy] at hw
   simp only at hw
   obtain ⟨⟨cs,hcl,hcsc,hv⟩,b,hm⟩:=hv
   cases hv
   have w01:=hm.old _ _ (by omega) w0
   have wm1:=wm.trans hm
   refine z0B ?_
   refine z0T rfl rfl rfl hcl rfl hcsc ?_
   have w02:=z0F (G:=[Blk.cells cs]) w01
   have wm2:=wm1.app [Blk.cells cs]
   generalize (W1++[Blk.cells cs]:Heap)=W2 at *
   refine z0B ?_
   refine z0L (out:=Z4) rfl rfl ?_
   refine z0Z (k:=4) (ws:=Z4) rfl rfl w02 rfl rfl rfl ?_
   refine z0B ?_
   exact z1G (res22 rfl rfl (z0C w02) rfl) (fail22 hw rfl fun j b h1 h2=>z0A (wm2.old _ _ h1 h2) (by have:=hlj j b h2;omega))
  | some x =>
   obtain ⟨⟨oa,ta,na,la⟩,⟨ob,tb,nb,lb⟩,fa,fb,k⟩:=x
   rw [hs] at hv hyy
   simp only at hv hyy
   obtain ⟨hv,hm⟩:=hv
   cases hv
   have hkl:=placeR_le hs
   rw [List.length_drop] at hkl
   have hep:encPl (Ex.mk oa ta na la,Ex.mk ob tb nb lb)=.agg [.int .i64 oa,.str ta,lst na la,.int .i64 ob,.str tb,lst nb lb]:=rfl
   rw [hep]
   have ec1:(k==(l.drop q).length)=(q+k==l.length):=by
    rw [List.length_drop,Bool.eq_iff_iff,beq_iff_eq,beq_iff_eq];omega
   have ec2:((l.drop q).getD k []==[59])=(decide (q+k<l.length)&&l.getD (q+k) []==[59]):=by
    have:(l.drop q).getD k []=l.getD (q+k) []:=by rw [List.getD_eq_getElem?_getD,List.getD_eq_getElem?_getD,List.getElem?_drop]
    rw [this]
    by_cases h:q+k<l.length
    ·rw [decide_eq_true h,Bool.true_and]
    ·have:l.getD (q+k) []=[]:=by rw [List.getD_eq_getElem?_getD,List.getElem?_eq_none (by omega)];rfl
     rw [this,decide_eq_false h];rfl
   rw [ec1,ec2,List.drop_drop] at hyy
   generalize frs1 (frs1 bad fa) fb=bad' at *
   have w01:=hm.old _ _ (by omega) w0
   have w11:=hm.old _ _ (by omega) w1
   have wid1:=hm.old _ _ (by omega) wid
   have wO1:OwnL 6 V.length W1 lv (ps.map encPl):=wO.mono fun j b hj h=>hm.old _ _ (by omega) h
   have wm1:=wm.trans hm
   have wl1:V.length≤W1.length:=Nat.le_trans wl hm.len
   clear w0 w1 wid wO wm wl hm W
   refine z0B ?_
   refine z0T rfl rfl rfl rfl rfl all_Pl ?_
   generalize hpc:([.int .i64 oa,.str ta,lst na la,.int .i64 ob,.str tb,lst nb lb]:List AV)=pc at *
   have hpcl:pc.length=6:=by rw [←hpc];rfl
   have hpcs:pc.all AV.scalar=true:=by rw [←hpc];exact all_Pl
   have w8:(W1++[Blk.cells pc])[W1.length]? =some (.cells pc):=z0K
   have w02:=z0F (G:=[Blk.cells pc]) w01
   have w12:=z0F (G:=[Blk.cells pc]) w11
   have wid2:=z0F (G:=[Blk.cells pc]) wid1
   have wO2:=wO1.app [Blk.cells pc]
   have wm2:=wm1.app [Blk.cells pc]
   have wl2:V.length≤(W1++[Blk.cells pc]:Heap).length:=by simp;omega
   generalize (W1++[Blk.cells pc]:Heap)=W2 at *
   generalize W1.length=i8 at *
   clear w01 w11 wid1 wO1 wm1 wl1 W1
   refine z0B ?_
   refine z1N (v:=.agg pc) rfl w8 (dpart_all hpcl) ?_
   refine z1A (out:=pc) ?_ ?_
   ·rw [←hpc];rfl
   refine st_appL (lo:=V.length) (sz:=6) (l:=ps.map encPl) (cs:=pc) rfl wO2 rfl hpcl hpcs (by rw [List.length_map];omega) wl2 ?_
   intro v' U hO' hold' hlen
   rw [←hep,show ps.map encPl++[encPl (Ex.mk oa ta na la,Ex.mk ob tb nb lb)]=(ps++[(Ex.mk oa ta na la,Ex.mk ob tb nb lb)]).map encPl by simp] at hO'
   have wmU:Mod H rid (RF l (q+k) bad' lg) U:=⟨hold' _ _ (by omega) wm2.get,fun j b h1 h2=>hold' _ _ (by have:=hlj j b h2;omega) (wm2.old j b h1 h2),by have:=wm2.len;omega⟩
   refine z0B ?_
   refine z0P (v:=v') rfl rfl (hold' _ _ (by omega) w12) hO'.scalar (by simp) ?_
   show VV _ _ _ (U.set (H.length+1) (C4 kd pv v' true)) _ _
   have t0:=z0A (y:=C4 kd pv v' true) (b:=H.length+1) (hold' _ _ (by omega) w02) (by omega)
   have t1:=z0C (y:=C4 kd pv v' true) (hold' _ _ (by omega) w12)
   have tid:=z0A (y:=C4 kd pv v' true) (b:=H.length+1) (hold' _ _ (by omega) wid2) (by omega)
   have tO:OwnL 6 V.length (U.set (H.length+1) (C4 kd pv v' true)) v' ((ps++[(Ex.mk oa ta na la,Ex.mk ob tb nb lb)]).map encPl):=hO'.mono fun j b hj h=>z0A h (by omega)
   have tm:Mod H rid (RF l (q+k) bad' lg) (U.set (H.length+1) (C4 kd pv v' true)):=wmU.own (by omega) (by omega)
   have tl:V.length≤(U.set (H.length+1) (C4 kd pv v' true)).length:=by rw [List.length_set];omega
   have hpnl:(ps++[((Ex.mk oa ta na la,Ex.mk ob tb nb lb):Pl)]).length≤q+1:=by simp;omega
   generalize U.set (H.length+1) (C4 kd pv v' true)=W3 at *
   generalize ps++[((Ex.mk oa ta na la,Ex.mk ob tb nb lb):Pl)]=ps2 at *
   clear w8 w02 w12 wid2 wO2 wm2 wl2 hO' hold' hlen wmU
   have tg:=tm.get
   have eq1:(((q+k:Nat):Int)==((l.map AV.str).length:Int))=(q+k==l.length):=by rw [hsl2];exact nat_eq _ _
   refine z0B ?_
   rw [eq1]
   cases hend:(q+k==l.length)
   rotate_left
   ·rw [hend] at hyy
    simp only [if_true] at hyy
    rw [←hyy] at hw
    simp only at hw
    have hsc4:([.int .i64 kd,pv,v',.bool true]:List AV).all AV.scalar=true:=by
     simp only [List.all_cons,hpsc,tO.scalar,List.all_nil];rfl
    refine z0B ?_
    refine z0Z (k:=4) (ws:=[.int .i64 kd,pv,v',.bool true]) rfl rfl t0 rfl rfl hsc4 ?_
    refine z0B ?_
    have hmx:Mod H rid (RF l (q+k) bad' lg) (W3.set H.length (C4 kd pv v' true)):=tm.own (Nat.le_refl _) (by omega)
    exact z1G (res22 rfl rfl (z0C t0) rfl) (ok22 (lo2:=V.length) hw ⟨id,hpvi,z0A tid (by omega),by omega,hVl⟩ hp0 (tO.mono fun j b hj h=>z0A h (by omega)) hpn hrl hmx.get hmx.old)
   rw [hend] at hyy
   simp only [Bool.false_eq_true,if_false] at hyy
   refine z0B ?_
   refine z1H rfl (c58 (t:=[59]) tg (by omega) (by omega)) ?_ ?_
   rotate_left
   ·rintro v H' ⟨h,_⟩;cases h
   rintro v H' ⟨h,rfl⟩
   cases h
   cases his:(decide (q+k<l.length)&&l.getD (q+k) []==[59])
   ·rw [his] at hyy
    simp only [Bool.false_eq_true,if_false] at hyy ⊢
    rw [←hyy] at hw
    simp only at hw
    have t02:=z0A (y:=RF l (q+k) bad' lg) (b:=rid) t0 (by omega)
    have tm2:Mod H rid (RF l (q+k) bad' lg) (W3.set rid (RF l (q+k) bad' lg)):=tm.put
    generalize W3.set rid (RF l (q+k) bad' lg)=W4 at *
    refine z0B ?_
    refine z0L (out:=Z4) rfl rfl ?_
    refine z0Z (k:=4) (ws:=Z4) rfl rfl t02 rfl rfl rfl ?_
    refine z0B ?_
    exact z1G (res22 rfl rfl (z0C t02) rfl) (fail22 hw rfl fun j b h1 h2=>z0A (tm2.old _ _ h1 h2) (by have:=hlj j b h2;omega))
   ·rw [his] at hyy
    simp only [if_true] at hyy ⊢
    simp only [Bool.and_eq_true,decide_eq_true_eq] at his
    have t02:=z0A (y:=RF l (q+k+1) bad' lg) (b:=rid) t0 (by omega)
    have t12:=z0A (y:=RF l (q+k+1) bad' lg) (b:=rid) t1 (by omega)
    have tid2:=z0A (y:=RF l (q+k+1) bad' lg) (b:=rid) tid (by omega)
    have tO2:OwnL 6 V.length (W3.set rid (RF l (q+k+1) bad' lg)) v' (ps2.map encPl):=tO.mono fun j b hj h=>z0A h (by omega)
    refine z0B ?_
    exact ⟨m,by omega,q+k+1,ps2,v',bad',rfl,tm.put,t02,t12,tid2,tO2,by rw [List.length_set];exact tl,by omega,by omega,by omega,hyy⟩
 ·rw [his] at hw
  simp only [Bool.false_eq_true,if_false] at hw ⊢
  have q1:=loopH (b:=RF l p 0 lg)
  generalize V.set rid (RF l p 0 lg)=V2 at *
  have q2:=sset (bl:=false) q1
  refine z0B ?_
  refine z0P (v:=.bool false) rfl rfl q1.2.1 rfl (by simp) ?_
  show VV _ _ _ (V2.set (H.length+1) (C4 kd pv .nilslice false)) _ _
  generalize V2.set (H.length+1) (C4 kd pv .nilslice false)=V3 at *
  obtain ⟨z0,z1,zid,zm,zl⟩:=q2
  clear q1 sset loopH his h0 h1 hid hm hg1
  refine z0B ?_
  refine z1H rfl (c58 (t:=[124,124]) zm.get (by omega) (by omega)) ?_ ?_
  rotate_left
  ·rintro v H' ⟨h,_⟩;cases h
  rintro v H' ⟨h,rfl⟩
  cases h
  cases his:(decide (p<l.length)&&l.getD p []==[124,124])
  ·rw [his] at hw
   simp only [Bool.false_eq_true,if_false] at hw ⊢
   have zm2:Mod H rid (RF l p 0 lg) (V3.set rid (RF l p 0 lg)):=zm.put
   have z02:=z0A (y:=RF l p 0 lg) (b:=rid) z0 (by omega)
   generalize V3.set rid (RF l p 0 lg)=V4 at *
   refine z0B ?_
   refine z0L (out:=Z4) rfl rfl ?_
   refine z0Z (k:=4) (ws:=Z4) rfl rfl z02 rfl rfl rfl ?_
   refine z0B ?_
   exact z1G (res22 rfl rfl (z0C z02) rfl) (fail22 hw rfl fun j b h1 h2=>z0A (zm2.old _ _ h1 h2) (by have:=hlj j b h2;omega))
  ·rw [his] at hw
   simp only [if_true] at hw ⊢
   simp only [Bool.and_eq_true,decide_eq_true_eq] at his
   have zm2:Mod H rid (RF l (p+1) 0 lg) (V3.set rid (RF l (p+1) 0 lg)):=zm.put
   have z02:=z0A (y:=RF l (p+1) 0 lg) (b:=rid) z0 (by omega)
   have z12:=z0A (y:=RF l (p+1) 0 lg) (b:=rid) z1 (by omega)
   have zid2:=z0A (y:=RF l (p+1) 0 lg) (b:=rid) zid (by omega)
   have zl2:(V3.set rid (RF l (p+1) 0 lg)).length=V.length:=by rw [List.length_set];exact zl
   clear zm z0 z1 zid zl
   obtain ⟨zm,z0,z1,zid,zl⟩:_∧_∧_∧_∧_:=⟨zm2,z02,z12,zid2,zl2⟩
   clear zm2 z02 z12 zid2 zl2
   have hplt:=his.1
   generalize V3.set rid (RF l (p+1) 0 lg)=V4 at *
   clear his
   refine z0B ?_
   generalize hyy:plsR (l.length+1) (l.drop (p+1)) [] 0=yy at *
   have hps:1≤l.length+1:=by omega
   refine z1S (fun m al H'=>∃ (q:Nat) (ps:List Pl) (lv:AV) (bad:Int),al=[(0,.ptr rid 0),(2,.ptr H.length 0),(4,.ptr (H.length+1) 0)]∧Mod H rid (RF l q bad lg) H'∧H'[H.length]? =some (.cells Z4)∧H'[H.length+1]? =some (C4 kd pv lv false) ∧
    H'[id]? =some (.cells (flat (prs.map encP)))∧OwnL 6 V.length H' lv (ps.map encPl)∧V.length≤H'.length∧q≤l.length∧ps.length≤q∧l.length+1≤q+m∧plsR m (l.drop q) ps bad=yy) (l.length+1)
    ⟨p+1,[],_,0,rfl,zm,z0,z1,zid,.nil,by omega,by omega,by simp,by omega,hyy⟩ ?_
   clear zm z0 z1 zid zl hyy
   rintro m _ W ⟨q,ps,lv,bad,rfl,wm,w0,w1,wid,wO,wl,hq,hpsl,hqm,hyy⟩
   cases m with
   | zero=>omega
   | succ m =>
   rw [plsR] at hyy
   have hlsc:AV.scalar lv=true:=wO.scalar
   refine z0B ?_
   refine z1H rfl (c59 wm.get hq (by omega) hls (hj q)) ?_ ?_
   rotate_left
   ·intro v H' hv
    unfold PlP at hv
    cases hs:placeR (l.drop q) with
    | none=>rw [hs] at hv;obtain ⟨⟨cs,_,_,hv⟩,_⟩:=hv;cases hv
    | some x=>obtain ⟨a,b,fa,fb,k⟩:=x;rw [hs] at hv;cases hv.1
   intro v W1 hv
   unfold PlP at hv
   cases hs:placeR (l.drop q) with
   | none =>
    rw [hs] at hv hyy
    simp only at hv hyy
    rw [←hyy] at hw
    simp only at hw
    obtain ⟨⟨cs,hcl,hcsc,hv⟩,b,hm⟩:=hv
    cases hv
    have w01:=hm.old _ _ (by omega) w0
    have wm1:=wm.trans hm
    refine z0B ?_
    refine z0T rfl rfl rfl hcl rfl hcsc ?_
    have w02:=z0F (G:=[Blk.cells cs]) w01
    have wm2:=wm1.app [Blk.cells cs]
    generalize (W1++[Blk.cells cs]:Heap)=W2 at *
    refine z0B ?_
    refine z0L (out:=Z4) rfl rfl ?_
    refine z0Z (k:=4) (ws:=Z4) rfl rfl w02 rfl rfl rfl ?_
    refine z0B ?_
    exact z1G (res22 rfl rfl (z0C w02) rfl) (fail22 hw rfl fun j b h1 h2=>z0A (wm2.old _ _ h1 h2) (by have:=hlj j b h2;omega))
   | some x =>
    obtain ⟨⟨oa,ta,na,la⟩,⟨ob,tb,nb,lb⟩,fa,fb,k⟩:=x
    rw [hs] at hv hyy
    simp only at hv hyy
    obtain ⟨hv,hm⟩:=hv
    cases hv
    have hkl:=placeR_le hs
    rw [List.length_drop] at hkl
    have hep:encPl (Ex.mk oa ta na la,Ex.mk ob tb nb lb)=.agg [.int .i64 oa,.str ta,lst na la,.int .i64 ob,.str tb,lst nb lb]:=rfl
    rw [hep]
    have ec1:(k==(l.drop q).length)=(q+k==l.length):=by
     rw [List.length_drop,Bool.eq_iff_iff,beq_iff_eq,beq_iff_eq];omega
    have ec2:((l.drop q).getD k []==[59])=(decide (q+k<l.length)&&l.getD (q+k) []==[59]):=by
     have:(l.drop q).getD k []=l.getD (q+k) []:=by rw [List.getD_eq_getElem?_getD,List.getD_eq_getElem?_getD,List.getElem?_drop]
     rw [this]
     by_cases h:q+k<l.length
     ·rw [decide_eq_true h,Bool.true_and]
     ·have:l.getD (q+k) []=[]:=by rw [List.getD_eq_getElem?_getD,List.getElem?_eq_none (by omega)];rfl
      rw [this,decide_eq_false h];rfl
    rw [ec1,ec2,List.drop_drop] at hyy
    generalize frs1 (frs1 bad fa) fb=bad' at *
    have w01:=hm.old _ _ (by omega) w0
    have w11:=hm.old _ _ (by omega) w1
    have wid1:=hm.old _ _ (by omega) wid
    have wO1:OwnL 6 V.length W1 lv (ps.map encPl):=wO.mono fun j b hj h=>hm.old _ _ (by omega) h
    have wm1:=wm.trans hm
    have wl1:V.length≤W1.length:=Nat.le_trans wl hm.len
    clear w0 w1 wid wO wm wl hm W
    refine z0B ?_
    refine z0T rfl rfl rfl rfl rfl all_Pl ?_
    generalize hpc:([.int .i64 oa,.str ta,lst na la,.int .i64 ob,.str tb,lst nb lb]:List AV)=pc at *
    have hpcl:pc.length=6:=by rw [←hpc];rfl
    have hpcs:pc.all AV.scalar=true:=by rw [←hpc];exact all_Pl
    have w8:(W1++[Blk.cells pc])[W1.length]? =some (.cells pc):=z0K
    have w02:=z0F (G:=[Blk.cells pc]) w01
    have w12:=z0F (G:=[Blk.cells pc]) w11
    have wid2:=z0F (G:=[Blk.cells pc]) wid1
    have wO2:=wO1.app [Blk.cells pc]
    have wm2:=wm1.app [Blk.cells pc]
    have wl2:V.length≤(W1++[Blk.cells pc]:Heap).length:=by simp;omega
    generalize (W1++[Blk.cells pc]:Heap)=W2 at *
    generalize W1.length=i8 at *
    clear w01 w11 wid1 wO1 wm1 wl1 W1
    refine z0B ?_
    refine z1N (v:=.agg pc) rfl w8 (dpart_all hpcl) ?_
    refine z1A (out:=pc) ?_ ?_
    ·rw [←hpc];rfl
    refine st_appL (lo:=V.length) (sz:=6) (l:=ps.map encPl) (cs:=pc) rfl wO2 rfl hpcl hpcs (by rw [List.length_map];omega) wl2 ?_
    intro v' U hO' hold' hlen
    rw [←hep,show ps.map encPl++[encPl (Ex.mk oa ta na la,Ex.mk ob tb nb lb)]=(ps++[(Ex.mk oa ta na la,Ex.mk ob tb nb lb)]).map encPl by simp] at hO'
    have wmU:Mod H rid (RF l (q+k) bad' lg) U:=⟨hold' _ _ (by omega) wm2.get,fun j b h1 h2=>hold' _ _ (by have:=hlj j b h2;omega) (wm2.old j b h1 h2),by have:=wm2.len;omega⟩
    refine z0B ?_
    refine z0P (v:=v') rfl rfl (hold' _ _ (by omega) w12) hO'.scalar (by simp) ?_
    show VV _ _ _ (U.set (H.length+1) (C4 kd pv v' false)) _ _
    have t0:=z0A (y:=C4 kd pv v' false) (b:=H.length+1) (hold' _ _ (by omega) w02) (by omega)
    have t1:=z0C (y:=C4 kd pv v' false) (hold' _ _ (by omega) w12)
    have tid:=z0A (y:=C4 kd pv v' false) (b:=H.length+1) (hold' _ _ (by omega) wid2) (by omega)
    have tO:OwnL 6 V.length (U.set (H.length+1) (C4 kd pv v' false)) v' ((ps++[(Ex.mk oa ta na la,Ex.mk ob tb nb lb)]).map encPl):=hO'.mono fun j b hj h=>z0A h (by omega)
    have tm:Mod H rid (RF l (q+k) bad' lg) (U.set (H.length+1) (C4 kd pv v' false)):=wmU.own (by omega) (by omega)
    have tl:V.length≤(U.set (H.length+1) (C4 kd pv v' false)).length:=by rw [List.length_set];omega
    have hpnl:(ps++[((Ex.mk oa ta na la,Ex.mk ob tb nb lb):Pl)]).length≤q+1:=by simp;omega
    generalize U.set (H.length+1) (C4 kd pv v' false)=W3 at *
    generalize ps++[((Ex.mk oa ta na la,Ex.mk ob tb nb lb):Pl)]=ps2 at *
    clear w8 w02 w12 wid2 wO2 wm2 wl2 hO' hold' hlen wmU
    have tg:=tm.get
    have eq1:(((q+k:Nat):Int)==((l.map AV.str).length:Int))=(q+k==l.length):=by rw [hsl2];exact nat_eq _ _
    refine z0B ?_
    rw [eq1]
    cases hend:(q+k==l.length)
    rotate_left
    ·rw [hend] at hyy
     simp only [if_true] at hyy
     rw [←hyy] at hw
     simp only at hw
     have hsc4:([.int .i64 kd,pv,v',.bool false]:List AV).all AV.scalar=true:=by
      simp only [List.all_cons,hpsc,tO.scalar,List.all_nil];rfl
     refine z0B ?_
     refine z0Z (k:=4) (ws:=[.int .i64 kd,pv,v',.bool false]) rfl rfl t0 rfl rfl hsc4 ?_
     refine z0B ?_
     have hmx:Mod H rid (RF l (q+k) bad' lg) (W3.set H.length (C4 kd pv v' false)):=tm.own (Nat.le_refl _) (by omega)
     exact z1G (res22 rfl rfl (z0C t0) rfl) (ok22 (lo2:=V.length) hw ⟨id,hpvi,z0A tid (by omega),by omega,hVl⟩ hp0 (tO.mono fun j b hj h=>z0A h (by omega)) hpn hrl hmx.get hmx.old)
    rw [hend] at hyy
    simp only [Bool.false_eq_true,if_false] at hyy
    refine z0B ?_
    refine z1H rfl (c58 (t:=[59]) tg (by omega) (by omega)) ?_ ?_
    rotate_left
    ·rintro v H' ⟨h,_⟩;cases h
    rintro v H' ⟨h,rfl⟩
    cases h
    cases his:(decide (q+k<l.length)&&l.getD (q+k) []==[59])
    ·rw [his] at hyy
     simp only [Bool.false_eq_true,if_false] at hyy ⊢
     rw [←hyy] at hw
     simp only at hw
     have t02:=z0A (y:=RF l (q+k) bad' lg) (b:=rid) t0 (by omega)
     have tm2:Mod H rid (RF l (q+k) bad' lg) (W3.set rid (RF l (q+k) bad' lg)):=tm.put
     generalize W3.set rid (RF l (q+k) bad' lg)=W4 at *
     refine z0B ?_
     refine z0L (out:=Z4) rfl rfl ?_
     refine z0Z (k:=4) (ws:=Z4) rfl rfl t02 rfl rfl rfl ?_
     refine z0B ?_
     exact z1G (res22 rfl rfl (z0C t02) rfl) (fail22 hw rfl fun j b h1 h2=>z0A (tm2.old _ _ h1 h2) (by have:=hlj j b h2;omega))
    ·rw [his] at hyy
     simp only [if_true] at hyy ⊢
     simp only [Bool.and_eq_true,decide_eq_true_eq] at his
     have t02:=z0A (y:=RF l (q+k+1) bad' lg) (b:=rid) t0 (by omega)
     have t12:=z0A (y:=RF l (q+k+1) bad' lg) (b:=rid) t1 (by omega)
     have tid2:=z0A (y:=RF l (q+k+1) bad' lg) (b:=rid) tid (by omega)
     have tO2:OwnL 6 V.length (W3.set rid (RF l (q+k+1) bad' lg)) v' (ps2.map encPl):=tO.mono fun j b hj h=>z0A h (by omega)
     refine z0B ?_
     exact ⟨m,by omega,q+k+1,ps2,v',bad',rfl,tm.put,t02,t12,tid2,tO2,by rw [List.length_set];exact tl,by omega,by omega,by omega,hyy⟩
end Go.Ab
