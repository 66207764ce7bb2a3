/- Part 41 of the proof. -/
import Derived.Test.YtgpnlpieipoogaaGreatDoorA40
set_option linter.unusedVariables false
set_option linter.unusedSimpArgs false
namespace Go.Ab
open Go
set_option maxRecDepth 100000
set_option maxHeartbeats 8000000
theorem nat_eq (a b:Nat):((a:Int)==(b:Int))=(a==b):=by
 rw [Bool.eq_iff_iff];simp only [beq_iff_eq];omega
theorem getD_at {s:Bt} {i:Nat} {c:UInt8} (h:s[i]? =some c):s.getD i 0=c:=by rw [List.getD_eq_getElem?_getD,h];rfl
theorem c173 (s:Bt) (g:UInt8) (hs:s.length≤100000) (H:Heap):ACall PP 124 [.str s,.int .u8 g.toNat] H (Just H (encW ⟨true,cutS s g⟩)):=by
 refine ACall.gives (is124.c2 z0W mixed rfl ?_)
 refine z0D ?_
 refine z2G (fun m al H'=>∃ (i b:Nat) (d:Int) (v:AV) (out:List Bt),al=[(0,.str s),(1,.int .u8 g.toNat),(5,v),(6,.int .i64 b),(7,.int .i64 d),(8,.int .i64 i)]∧OwnS (H++[]) H' v out∧b≤i∧b≤s.length∧-(i:Int)≤d∧d≤i ∧
  s.length+1≤i+m∧i≤s.length+1∧out.length≤i∧out++cutF m g s b d i=cutS s g) (s.length+1)
  ⟨0,0,0,_,[],rfl,.nil (.refl _),by omega,by omega,by omega,by omega,by omega,by omega,by simp,rfl⟩ ?_
 rintro m _ H1 ⟨i,b,d,v,out,rfl,hO,hbi,hbl,hd1,hd2,hm,hi,hol,hx⟩
 refine z0D ?_
 cases hc:decide ((i:Int)<(s.length:Int))
 ·simp only [decide_eq_false_iff_not] at hc
  have hcut:cutF m g s b d i=[s.drop b]:=by
   cases m with
   | zero=>rfl
   | succ m=>rw [cutF,List.drop_eq_nil_of_le (by omega)]
  rw [hcut] at hx
  refine z0D ?_
  refine z0V (out:=[.str (s.drop b)]) rfl ?_
  refine z3S (l:=out) (ys:=[s.drop b]) rfl (hO.app _) (srcOf_last rfl) (by simp;omega) ?_
  intro v' H' ho
  rw [hx] at ho
  refine z0D ?_
  exact z1G rfl ho.ends
 simp only [decide_eq_true_eq] at hc
 obtain ⟨c,hci⟩:=z1E (l:=s) (i:=i) (by omega)
 obtain ⟨hl,hdr⟩:=List.getElem?_eq_some_iff.1 hci
 have hdc:s.drop i=c::s.drop (i+1):=by rw [List.drop_eq_getElem_cons hl,hdr]
 cases m with
 | zero=>omega
 | succ m =>
 rw [cutF,hdc] at hx
 simp only at hx
 have e92:((c.toNat:Int)==92)=(c==92):=z3M c 92
 have e60:((c.toNat:Int)==60)=(c==60):=z3M c 60
 have e91:((c.toNat:Int)==91)=(c==91):=z3M c 91
 have e93:((c.toNat:Int)==93)=(c==93):=z3M c 93
 have eg:((c.toNat:Int)==(g.toNat:Int))=(c==g):=z3M c g
 refine z0D ?_
 rw [e92]
 cases b1:(c==92)
 rotate_left
 ·rw [b1] at hx
  simp only [if_true] at hx
  refine z0D ?_
  exact ⟨m,by omega,i+1+1,b,d,v,out,rfl,hO,by omega,by omega,by omega,by omega,by omega,by omega,by omega,hx⟩
 rw [b1] at hx
 simp only [Bool.false_eq_true,if_false] at hx
 refine z0D ?_
 rw [e60]
 cases b2:(c==60)
 rotate_left
 ·rw [b2,←hdc] at hx
  simp only [if_true] at hx
  refine z0D ?_
  refine z2G (fun m2 al H'=>∃ j:Nat,al=[(0,.str s),(1,.int .u8 g.toNat),(5,v),(6,.int .i64 b),(7,.int .i64 d),(8,.int .i64 j)]∧H'=H1∧i≤j∧j+skipGt (s.drop j)=i+skipGt (s.drop i)∧j+m2=s.length∧j<s.length) (s.length-i)
   ⟨i,rfl,rfl,Nat.le_refl _,rfl,by omega,hl⟩ ?_
  rintro m2 _ _ ⟨j,rfl,rfl,hij,hsk,hjm,hjl⟩
  obtain ⟨c',hcj⟩:=z1E hjl
  have hdj:s.drop j=c'::s.drop (j+1):=by rw [List.drop_eq_getElem_cons hjl,(List.getElem?_eq_some_iff.1 hcj).2]
  have e62:((c'.toNat:Int) != 62) = !(c'==62):=by
   have:((c'.toNat:Int)==62)=(c'==62):=z3M c' 62
   rw [bne,this]
  refine z0D ?_
  cases hc2:decide (((j+1:Nat):Int)<(s.length:Int))
  ·simp only [decide_eq_false_iff_not] at hc2
   have h0:s.drop (j+1)=[]:=List.drop_eq_nil_of_le (by omega)
   have hk:skipGt (s.drop j)=0:=by rw [hdj,h0];rfl
   rw [hk,Nat.add_zero] at hsk
   refine z0D ?_
   exact ⟨m,by omega,j+1,b,d,v,out,rfl,hO,by omega,by omega,by omega,by omega,by omega,by omega,by omega,by rw [hsk];exact hx⟩
  ·simp only [decide_eq_true_eq] at hc2
   have hne:s.drop (j+1)≠[]:=by intro e;have:=congrArg List.length e;simp at this;omega
   have hk:skipGt (s.drop j)=if c'==62 then 0 else skipGt (s.drop (j+1))+1:=by
    rw [hdj]
    cases h:s.drop (j+1) with
    | nil=>exact absurd h hne
    | cons x t=>rfl
   refine z0D ?_
   rw [e62]
   cases b6:(c'==62)
   ·rw [b6] at hk
    simp only [Bool.false_eq_true,if_false] at hk
    refine z0D ?_
    exact ⟨m2-1,by omega,j+1,rfl,rfl,by omega,by omega,by omega,by omega⟩
   ·rw [b6] at hk
    simp only [if_true] at hk
    rw [hk,Nat.add_zero] at hsk
    refine z0D ?_
    exact ⟨m,by omega,j+1,b,d,v,out,rfl,hO,by omega,by omega,by omega,by omega,by omega,by omega,by omega,by rw [hsk];exact hx⟩
 rw [b2] at hx
 simp only [Bool.false_eq_true,if_false] at hx
 refine z0D ?_
 rw [e91]
 cases b3:(c==91)
 rotate_left
 ·rw [b3] at hx
  simp only [if_true] at hx
  refine z0D ?_
  refine st_addi (a:=d) (b:=1) rfl rfl (by omega) (by omega) ?_
  refine z0D ?_
  exact ⟨m,by omega,i+1,b,d+1,v,out,rfl,hO,by omega,by omega,by omega,by omega,by omega,by omega,by omega,hx⟩
 rw [b3] at hx
 simp only [Bool.false_eq_true,if_false] at hx
 refine z0D ?_
 rw [e93]
 cases b4:(c==93)
 rotate_left
 ·rw [b4] at hx
  simp only [if_true] at hx
  refine z0D ?_
  refine st_subi (a:=d) (b:=1) rfl rfl (by omega) (by omega) ?_
  refine z0D ?_
  exact ⟨m,by omega,i+1,b,d-1,v,out,rfl,hO,by omega,by omega,by omega,by omega,by omega,by omega,by omega,hx⟩
 rw [b4] at hx
 simp only [Bool.false_eq_true,if_false] at hx
 refine z0D ?_
 rw [eg]
 refine z3Y [(0,.str s),(1,.int .u8 g.toNat),(5,v),(6,.int .i64 b),(7,.int .i64 d),(8,.int .i64 i),
  (50,.bool (c==g&&d==0&&(i==0||s.getD (i-1) 0==32)&&(i+1==s.length||s.getD (i+1) 0==32)))] H1 ?_ ?_
 ·have e0:((i:Int)==0)=(i==0):=nat_eq i 0
  have e1:(((i+1:Nat):Int)==(s.length:Int))=(i+1==s.length):=nat_eq _ _
  cases hg1:(c==g)
  ·refine z0D ?_
   exact z0Z rfl rfl
  ·refine z0D ?_
   cases hg2:(d==0)
   ·refine z0D ?_
    exact z0Z rfl rfl
   ·refine z0D ?_
    rw [e0]
    cases h0i:(i==0)
    ·have hne:i≠0:=by simpa using h0i
     obtain ⟨c0,hc0⟩:=z1E (l:=s) (i:=i-1) (by omega)
     have g32:((c0.toNat:Int)==32)=(c0==32):=z3M c0 32
     rw [getD_at hc0]
     refine z0D ?_
     refine z3P rfl (by omega) (by omega) ?_
     refine z0D ?_
     rw [g32]
     cases h4i:(c0==32)
     ·refine z0D ?_
      exact z0Z rfl rfl
     ·refine z0D ?_
      rw [e1]
      cases h2i:(i+1==s.length)
      ·have hne:i+1≠s.length:=by simpa using h2i
       obtain ⟨c2,hc2⟩:=z1E (l:=s) (i:=i+1) (by omega)
       have f32:((c2.toNat:Int)==32)=(c2==32):=z3M c2 32
       rw [getD_at hc2]
       refine z0D ?_
       rw [f32]
       cases h3i:(c2==32)
       ·refine z0D ?_
        exact z0Z rfl rfl
       ·refine z0D ?_
        exact z0Z rfl rfl
      ·refine z0D ?_
       exact z0Z rfl rfl
    ·refine z0D ?_
     rw [e1]
     cases h2i:(i+1==s.length)
     ·have hne:i+1≠s.length:=by simpa using h2i
      obtain ⟨c2,hc2⟩:=z1E (l:=s) (i:=i+1) (by omega)
      have f32:((c2.toNat:Int)==32)=(c2==32):=z3M c2 32
      rw [getD_at hc2]
      refine z0D ?_
      rw [f32]
      cases h3i:(c2==32)
      ·refine z0D ?_
       exact z0Z rfl rfl
      ·refine z0D ?_
       exact z0Z rfl rfl
     ·refine z0D ?_
      exact z0Z rfl rfl
 cases hsg:(c==g&&d==0&&(i==0||s.getD (i-1) 0==32)&&(i+1==s.length||s.getD (i+1) 0==32))
 ·rw [hsg] at hx
  simp only [Bool.false_eq_true,if_false] at hx
  refine z0D ?_
  exact ⟨m,by omega,i+1,b,d,v,out,rfl,hO,by omega,by omega,by omega,by omega,by omega,by omega,by omega,hx⟩
 ·rw [hsg] at hx
  simp only [if_true] at hx
  refine z0D ?_
  refine st_slFT (i:=b) (j:=i) rfl rfl rfl (by omega) (by omega) ?_
  refine z0V (out:=[.str ((s.take i).drop b)]) rfl ?_
  refine z3S (l:=out) (ys:=[(s.take i).drop b]) rfl (hO.app _) (srcOf_last rfl) (by simp;omega) ?_
  intro v' H' ho
  refine z0D ?_
  exact ⟨m,by omega,i+1,i+1,d,v',out++[(s.take i).drop b],rfl,ho,by omega,by omega,by omega,by omega,by omega,by omega,by simp;omega,by rw [List.append_assoc];exact hx⟩
def sideP (k:Nat) (t:Bt):Option (Ex × Bool) :=
 let u:=if k==0 then t.take (t.length-1) else t.drop 1
 if (exP u).2==2||triL (triR u) != u||bareP (u.length+1) 0 u then none else if (exP u).2 != 0 then some (tgr 12,true) else some ((exP u).1,false)
def sidesF (l:List Bt):Nat→Option (List Ex × Bool)
 | 0=>some ([lf 2,lf 2],false)
 | i+1=>match sidesF l i with
  | none=>none
  | some (E,g)=>if l.getD i []==[] then some (E,g) else match sideP i (l.getD i []) with
   | none=>none
   | some (x,h)=>some (E.set i x,g||h)
def oneP (s:Bt):Option (List Ex × Bool):=if (cutS s 95).length==2 then sidesF (cutS s 95) 2 else none
theorem sidesF_len {l:List Bt}:∀ {i:Nat} {E:List Ex} {g:Bool},sidesF l i=some (E,g)→E.length=2
 | 0,E,g,h=>by simp only [sidesF] at h;injection h with h;injection h with h _;subst h;rfl
 | i+1,E,g,h=>by
  simp only [sidesF] at h
  split at h
  ·cases h
  ·rename_i E' g' h'
   have ih:=sidesF_len h'
   split at h
   ·injection h with h;injection h with h _;subst h;exact ih
   ·split at h
    ·cases h
    ·injection h with h;injection h with h _;subst h;simpa using ih
theorem sidesF_none {l:List Bt} {i:Nat} (hi:i<2) (h:sidesF l (i+1)=none):sidesF l 2=none:=by
 match i,hi with
 | 0,_=>rw [sidesF,h]
 | 1,_=>exact h
abbrev Z6:List AV:=[.int .i64 0,.str [],.nilslice,.int .i64 0,.str [],.nilslice]
section steps
variable {P:Program} {H G:Heap} {al:AL} {K:KL} {Qp:AL→AV→Heap→Prop} {os:List IOper} {d:Nat} {x y z:Arg}
theorem st_arr {id i len sz:Nat} (hx:evL al x=.ptr id 0) (hy:evL al y=.int .i64 i) (hi:i<len) (h:VV P os ((d,.ptr id (i*sz))::al) H K Qp):VV P (⟨some d,.i (.d (.idxAddrArr len sz)),[x,y],none,none⟩::os) al H K Qp:=by
 refine z2Z (v:=.ptr id (i*sz)) ?_ h
 simp only [evsL,hx,hy,dsem]
 rw [if_pos ⟨by omega,by omega⟩]
 simp
theorem z5B {id:Nat} {cs ws:List AV} (hx:evL al x=.ptr id 0) (hy:evL al y=.agg ws) (hg:H[id]? =some (.cells cs)) (hl:cs.length=6) (hw:ws.length=6) (hs:ws.all AV.scalar=true)
  (h:VV P os al (H.set id (.cells ws)) K Qp):VV P (⟨none,.i (.m (.store 6)),[x,y],none,none⟩::os) al H K Qp :=
 z0X (.agg ws) hx hy hg (by simp [AV.shaped,AV.cells,hw,hl];simpa using hs) (setAt_all (by simp [AV.cells,hw,hl])) rfl h
end steps
theorem Plain.of_agg {l:List AV} (h:Plain (.agg l)):∀ x∈l,Plain x:=by
 obtain ⟨n,hn⟩:=h
 cases n with
 | zero=>cases hn
 | succ n=>exact fun x hx=>⟨n,List.all_eq_true.1 hn x hx⟩
theorem plain_flatE:∀ E:List Ex,Plain (.agg (flatE E))
 | []=>⟨1,rfl⟩
 | .mk a b c d::E=>by
  have h1:=plain_flatE E
  have h2:=plain_enc (.mk a b c d)
  rw [z0U] at h2
  have e:flatE (.mk a b c d::E)=[.int .i64 a,.str b,lst c d]++flatE E:=by rw [←z0Y,←z2R];rfl
  rw [e]
  refine Plain.agg fun x hx=>?_
  rcases List.mem_append.1 hx with hx | hx
  ·exact h2.of_agg x hx
  ·exact h1.of_agg x hx
theorem res174 {al:AL} {H':Heap} {n:Nat} {cs:List AV} {a b:AV} (h2:look al 2=.ptr n 0) (h3:look al 3=a) (h4:look al 4=b) (hg:H'[n]? =some (.cells cs)) (hl:cs.length=6) :
  resultL ic125.rs al H'=some (.tuple [.agg cs,a,b]):=by
 have hd:dpart (some 6) cs 0=some (.agg cs):=dpart_all hl
 have e:rload (some 6) (look al 2) H'=some (.agg cs):=by rw [h2];simp only [rload,hg,hd]
 show (match resVL [.cell 2 (some 6),.tmp 3,.tmp 4] al H' with | some [v]=>some v | some vs=>some (.tuple vs) | none=>none)=_
 simp only [resVL,e,h3,h4]
theorem flatE_set {E:List Ex} {i:Nat} {op:Int} {t:Bt} {nl:Bool} {l:List Ex} (hE:E.length=2) (hi:i<2) :
  setAt (flatE E) (i*3) [.int .i64 op,.str t,lst nl l]=flatE (E.set i (.mk op t nl l)):=by
 match E,hE with
 | [.mk a b c d,.mk a' b' c' d'],_ =>
  have e2:∀ (x y:Ex),flatE [x,y]=flatE [x]++flatE [y]:=fun x y=>by rw [←z2R];rfl
  match i,hi with
  | 0,_=>show setAt _ 0 _=flatE [.mk op t nl l,.mk a' b' c' d'];rw [e2,e2,z0Y,z0Y,z0Y];rfl
  | 1,_=>show setAt _ 3 _=flatE [.mk a b c d,.mk op t nl l];rw [e2,e2,z0Y,z0Y,z0Y];rfl
theorem c174 (s:Bt) (hs:s.length≤6000) (H:Heap) :
  ACall PP 125 [.str s] H (Just H (match oneP s with | some (E,g)=>.tuple [.agg (flatE E),.bool g,.bool true] | none=>.tuple [.agg Z6,.bool false,.bool false])):=by
 refine ACall.gives (is125.c1 z0W mixed rfl ?_)
 rw [List.append_nil]
 have hLs:∀ t∈cutS s 95,t.length≤s.length:=cutS_mem s 95
 refine z0E ?_
 refine z0F rfl (c173 s 95 (by omega) _) ?_
 have hw:=sl_W ⟨true,cutS s 95⟩
 simp only at hw
 have hwl:((cutS s 95).map AV.str).length=(cutS s 95).length:=List.length_map _
 unfold oneP
 generalize encW ⟨true,cutS s 95⟩=lv at *
 generalize hL:cutS s 95=L at *
 have e2:(((L.map AV.str).length:Int) != 2) = !(L.length==2):=by
  have e3:((L.length:Int)==2)=(L.length==2):=nat_eq L.length 2
  rw [bne,hwl,e3]
 have hz0:(H++[Blk.cells Z6])[H.length]? =some (.cells Z6):=z0Q
 have hE0:Ext H (H++[Blk.cells Z6]):=⟨_,rfl⟩
 refine z0E ?_
 rw [e2]
 cases hl2:(L.length==2)
 ·refine z0E ?_
  refine z0R (out:=Z6) rfl rfl ?_
  refine z5B rfl rfl hz0 rfl rfl rfl ?_
  refine z0E ?_
  exact z1G (res174 rfl rfl rfl (z0C hz0) rfl) (z0M (hE0.set (Nat.le_refl _)) (Plain.tuple (by
   intro x hx
   simp only [List.mem_cons,List.not_mem_nil,or_false] at hx
   rcases hx with rfl | rfl | rfl
   ·exact ⟨2,rfl⟩
   ·exact Plain.bool _
   ·exact Plain.bool _)))
 have hl2:L.length=2:=by simpa using hl2
 simp only [if_true]
 refine z0E ?_
 refine z0R (out:=[.int .i64 2,.str [],.nilslice]) rfl rfl ?_
 refine z1Q ?_
 have hl1:(H++[Blk.cells Z6]:Heap).length=H.length+1:=by simp
 rw [hl1]
 have g0:=z0H (G:=[B0]) hz0
 have g1:(H++[Blk.cells Z6]++[B0]:Heap)[H.length+1]? =some B0:=by rw [←hl1];exact z0Q
 have hE1:=hE0.app [B0]
 have hl3:(H++[Blk.cells Z6]++[B0]:Heap).length=H.length+2:=by simp
 generalize (H++[Blk.cells Z6]++[B0]:Heap)=X at *
 refine z0P rfl rfl g1 rfl ?_
 have f0:=z0A (y:=Blk.cells [.int .i64 2,.str [],.nilslice]) (b:=H.length+1) g0 (by omega)
 have f1:=z0C (y:=Blk.cells [.int .i64 2,.str [],.nilslice]) g1
 have fE:Ext H (X.set (H.length+1) (.cells [.int .i64 2,.str [],.nilslice])):=hE1.set (by omega)
 have hl4:(X.set (H.length+1) (.cells [.int .i64 2,.str [],.nilslice])).length=H.length+2:=by rw [List.length_set,hl3]
 generalize X.set (H.length+1) (.cells [.int .i64 2,.str [],.nilslice])=Y at *
 clear g0 g1 hE1 hl3 hz0 hE0 hl1
 refine z0E ?_
 refine z0R (out:=flatE [lf 2,lf 2]) rfl rfl ?_
 refine z1Q ?_
 rw [hl4]
 have g0:=z0H (G:=[Blk.cells Z6]) f0
 have g2:(Y++[Blk.cells Z6]:Heap)[H.length+2]? =some (.cells Z6):=by rw [←hl4];exact z0Q
 have gE:=fE.app [Blk.cells Z6]
 generalize (Y++[Blk.cells Z6]:Heap)=W at *
 refine z5B rfl rfl g2 rfl rfl rfl ?_
 have k0:=z0A (y:=Blk.cells (flatE [lf 2,lf 2])) (b:=H.length+2) g0 (by omega)
 have k2:=z0C (y:=Blk.cells (flatE [lf 2,lf 2])) g2
 have kE:Ext H (W.set (H.length+2) (.cells (flatE [lf 2,lf 2]))):=gE.set (by omega)
 generalize W.set (H.length+2) (.cells (flatE [lf 2,lf 2]))=V at *
 clear g0 g2 gE f0 f1 fE hl4 Y X W
 refine z0E ?_
 refine z1B 2 (fun i al H'=>∃ E g,al=[(2,.ptr H.length 0),(3,.bool g),(5,lv),(7,.ptr (H.length+2) 0),(23,.int .i64 i)]∧H'[H.length]? =some (.cells Z6)∧H'[H.length+2]? =some (.cells (flatE E))∧Ext H H'∧sidesF L i=some (E,g))
  ⟨[lf 2,lf 2],false,rfl,k0,k2,kE,rfl⟩ ?_
 clear k0 k2 kE V
 rintro i _ V hi ⟨E,g,rfl,k0,k2,kE,hsi⟩
 have hEl:=sidesF_len hsi
 have hVl:=(List.getElem?_eq_some_iff.1 k2).1
 refine z0E ?_
 cases hc:decide ((i:Int)<2)
 ·simp only [decide_eq_false_iff_not] at hc
  obtain rfl:i=2:=by omega
  rw [hsi]
  match E,hEl,k2 with
  | [.mk a b c d,.mk a' b' c' d'],_,k2 =>
   have e3:flatE [.mk a b c d,.mk a' b' c' d']=[.int .i64 a,.str b,lst c d,.int .i64 a',.str b',lst c' d']:=by
    rw [show ([Ex.mk a b c d,.mk a' b' c' d']:List Ex)=[Ex.mk a b c d]++[Ex.mk a' b' c' d'] from rfl,z2R,z0Y,z0Y];rfl
   rw [e3] at k2
   refine z0E ?_
   refine st_arr (i:=0) rfl rfl (by omega) ?_
   refine z1T (v:=.agg [.int .i64 a,.str b,lst c d]) rfl k2 rfl ?_
   refine st_arr (i:=1) rfl rfl (by omega) ?_
   refine z1T (v:=.agg [.int .i64 a',.str b',lst c' d']) rfl k2 rfl ?_
   refine z0R (out:=[.int .i64 a,.str b,lst c d,.int .i64 a',.str b',lst c' d']) rfl rfl ?_
   refine z0E ?_
   refine z5B rfl rfl k0 rfl rfl (by simp only [List.all_cons,scalar_lst,List.all_nil];rfl) ?_
   refine z0E ?_
   simp only
   rw [e3]
   have hp:=plain_flatE [.mk a b c d,.mk a' b' c' d']
   rw [e3] at hp
   exact z1G (res174 rfl rfl rfl (z0C k0) rfl) (z0M (kE.set (Nat.le_refl _)) (Plain.tuple (by
    intro x hx
    simp only [List.mem_cons,List.not_mem_nil,or_false] at hx
    rcases hx with rfl | rfl | rfl
    ·exact hp
    ·exact Plain.bool _
    ·exact Plain.bool _)))
 simp only [decide_eq_true_eq] at hc
 obtain ⟨t,ht⟩:=z1E (l:=L) (i:=i) (by omega)
 have hmt:=map_str ht
 have htd:L.getD i []=t:=by rw [List.getD_eq_getElem?_getD,ht];rfl
 have htl:=hLs t (List.mem_of_getElem? ht)
 have hnx:sidesF L (i+1)=if t==[] then some (E,g) else match sideP i t with | none=>none | some (x,h)=>some (E.set i x,g||h):=by
  rw [sidesF,hsi];simp only;rw [htd]
 refine z0E ?_
 cases ht0:(t==[])
 rotate_left
 ·rw [ht0] at hnx
  refine z0E ?_
  exact ⟨by omega,E,g,rfl,k0,k2,kE,hnx⟩
 rw [ht0] at hnx
 simp only [Bool.false_eq_true,if_false] at hnx
 have ht1:1≤t.length:=by
  cases t with
  | nil=>cases ht0
  | cons=>simp
 unfold sideP at hnx
 simp only at hnx
 refine z0E ?_
 have ei0:((i:Int)==0)=(i==0):=nat_eq i 0
 rw [ei0]
 generalize hu:(if i==0 then t.take (t.length-1) else t.drop 1)=u at *
 have hul:u.length≤6000:=by
  rw [←hu]
  split
  ·rw [List.length_take];omega
  ·rw [List.length_drop];omega
 refine wi_cut (fun al' H'=>H'=V∧(al'=[(2,.ptr H.length 0),(3,.bool g),(5,lv),(7,.ptr (H.length+2) 0),(8,.int .i64 i),(9,.str u),(23,.int .i64 i)]∨al'=[(2,.ptr H.length 0),(3,.bool g),(5,lv),(7,.ptr (H.length+2) 0),(8,.int .i64 i),(9,.str u),(23,.int .i64 i),(37,.bool false)])) ?_ ?_
 ·cases hi0:(i==0)
  ·rw [hi0] at hu
   simp only [Bool.false_eq_true,if_false] at hu
   subst hu
   refine z0E ?_
   exact ⟨rfl,.inr rfl⟩
  ·rw [hi0] at hu
   simp only [if_true] at hu
   subst hu
   refine z0E ?_
   refine z3P rfl (by omega) (by omega) ?_
   refine z4Y (i:=t.length-1) rfl rfl (by omega) ?_
   refine z0E ?_
   exact ⟨rfl,.inl rfl⟩
 rintro al' _ ⟨rfl,hal⟩
 clear hu
 rcases hal with rfl | rfl
 all_goals
  refine z0E ?_
  refine z1W rfl (c211 u _) ?_ ?_
  rotate_left
  ·rintro v H' ⟨v',hv,_⟩;cases hv
  rintro v H' ⟨v',hv,⟨pl,rfl⟩,rfl⟩
  cases hv
  generalize exP u=ek at *
  obtain ⟨⟨op,tx,nl,l⟩,k⟩:=ek
  simp only at hnx ⊢
  rw [z0U]
  refine z0E ?_
  refine z1H rfl rfl rfl rfl rfl z1C ?_
  have q0:=z0H (G:=[Blk.cells [.int .i64 op,.str tx,lst nl l]]) k0
  have q2:=z0H (G:=[Blk.cells [.int .i64 op,.str tx,lst nl l]]) k2
  have qE:=kE.app [Blk.cells [.int .i64 op,.str tx,lst nl l]]
  have qx:(H'++[Blk.cells [.int .i64 op,.str tx,lst nl l]])[H'.length]? =some (.cells [.int .i64 op,.str tx,lst nl l]):=z0Q
  generalize (H'++[Blk.cells [.int .i64 op,.str tx,lst nl l]]:Heap)=W at *
  generalize H'.length=xb at *
  clear k0 k2 kE
  clear H'
  have e212:=c212 u (by omega) W
  have e213:=c213 u (by omega) W
  generalize bareP (u.length+1) 0 u=bare at *
  generalize triL (triR u)=tu at *
  refine z0E ?_
  refine z3Y [(2,.ptr H.length 0),(3,.bool g),(5,lv),(7,.ptr (H.length+2) 0),(8,.int .i64 i),(10,.ptr xb 0),(12,.int .i64 k),(23,.int .i64 i),(66,.bool (k==2||tu != u||bare))] W ?_ ?_
  ·cases hk2:(k==2)
   ·refine z0E ?_
    refine z0F rfl e212 ?_
    refine z0E ?_
    cases htu:(tu==u)
    ·have:(tu != u)=true:=by rw [bne,htu];rfl
     rw [this]
     refine z0E ?_
     exact z0Z rfl rfl
    ·have:(tu != u)=false:=by rw [bne,htu];rfl
     rw [this]
     refine z0E ?_
     refine z0F rfl e213 ?_
     refine z0E ?_
     exact z0Z rfl rfl
   ·refine z0E ?_
    exact z0Z rfl rfl
  cases hbad:(k==2||tu != u||bare)
  rotate_left
  ·rw [hbad] at hnx
   simp only [if_true] at hnx
   rw [sidesF_none (by omega) hnx]
   refine z0E ?_
   refine z0R (out:=Z6) rfl rfl ?_
   refine z5B rfl rfl q0 rfl rfl rfl ?_
   refine z0E ?_
   exact z1G (res174 rfl rfl rfl (z0C q0) rfl) (z0M (qE.set (Nat.le_refl _)) (Plain.tuple (by
    intro x hx
    simp only [List.mem_cons,List.not_mem_nil,or_false] at hx
    rcases hx with rfl | rfl | rfl
    ·exact ⟨2,rfl⟩
    ·exact Plain.bool _
    ·exact Plain.bool _)))
  rw [hbad] at hnx
  simp only [Bool.false_eq_true,if_false] at hnx
  refine z0E ?_
  cases hk0:(k != 0)
  ·rw [hk0] at hnx
   simp only [Bool.false_eq_true,if_false,Bool.or_false] at hnx
   refine z0E ?_
   refine st_arr (i:=i) rfl rfl (by omega) ?_
   refine z0X (.agg [.int .i64 op,.str tx,lst nl l]) rfl rfl q2 (by simp only [AV.shaped,AV.cells,z1C,z2Y,hEl];simp;omega) (flatE_set hEl (by omega)) rfl ?_
   refine z0E ?_
   exact ⟨by omega,E.set i (.mk op tx nl l),g,rfl,z0A q0 (by omega),z0C q2,qE.set (by omega),hnx⟩
  ·rw [hk0] at hnx
   simp only [if_true] at hnx
   have e214:=c214 W
   generalize tgr 12=tg at *
   obtain ⟨op',tx',nl',l'⟩:=tg
   rw [z0U] at e214
   refine z0E ?_
   refine z0F (args:=[]) rfl e214 ?_
   refine z0E ?_
   refine z0P rfl rfl qx z1C ?_
   have r0:=z0A (y:=Blk.cells [.int .i64 op',.str tx',lst nl' l']) (b:=xb) q0 (by omega)
   have r2:=z0A (y:=Blk.cells [.int .i64 op',.str tx',lst nl' l']) (b:=xb) q2 (by omega)
   have rE:Ext H (W.set xb (.cells [.int .i64 op',.str tx',lst nl' l'])):=qE.set (by omega)
   have rx:=z0C (y:=Blk.cells [.int .i64 op',.str tx',lst nl' l']) qx
   generalize W.set xb (.cells [.int .i64 op',.str tx',lst nl' l'])=W2 at *
   refine z0E ?_
   refine st_arr (i:=i) rfl rfl (by omega) ?_
   refine z0X (.agg [.int .i64 op',.str tx',lst nl' l']) rfl rfl r2 (by simp only [AV.shaped,AV.cells,z1C,z2Y,hEl];simp;omega) (flatE_set hEl (by omega)) rfl ?_
   refine z0E ?_
   exact ⟨by omega,E.set i (.mk op' tx' nl' l'),true,rfl,z0A r0 (by omega),z0C r2,rE.set (by omega),by rw [hnx,Bool.or_true]⟩
def trimP (i n:Nat) (s:Bt):Option Bt :=
 if decide (0<i)&&s==[] then none else
 let s1:=if decide (0<i) then s.drop 1 else s
 if decide (i+1<n) then if s1==[]||s1.getD (s1.length-1) 0 != 32 then none else some (s1.take (s1.length-1)) else some s1
def plOf (E:List Ex):Pl:=(E.getD 0 Z0,E.getD 1 Z0)
theorem enc_plOf {E:List Ex} (h:E.length=2):encPl (plOf E)=.agg (flatE E):=by
 match E,h with
 | [.mk a b c d,.mk a' b' c' d'],_ =>
  rw [show ([Ex.mk a b c d,.mk a' b' c' d']:List Ex)=[Ex.mk a b c d]++[Ex.mk a' b' c' d'] from rfl,z2R,z0Y,z0Y];rfl
def readI (L:List Bt):Nat→Option (List Pl × Bool)
 | 0=>some ([],false)
 | i+1=>match readI L i with
  | none=>none
  | some (ps,g)=>match trimP i L.length (L.getD i []) with
   | none=>none
   | some t=>match oneP t with
    | none=>none
    | some (E,h)=>some (ps++[plOf E],g||h)
def readP (s:Bt):Option (List Pl × Bool):=readI (cutS s 59) (cutS s 59).length
theorem readI_none {L:List Bt} {i:Nat} (h:readI L i=none):∀ {j:Nat},i≤j→readI L j=none:=by
 intro j hj
 induction hj with
 | refl=>exact h
 | step _ ih=>rw [readI,ih]
theorem readI_len {L:List Bt}:∀ {i:Nat} {ps:List Pl} {g:Bool},readI L i=some (ps,g)→ps.length=i
 | 0,ps,g,h=>by simp only [readI] at h;injection h with h;injection h with h _;subst h;rfl
 | i+1,ps,g,h=>by
  simp only [readI] at h
  split at h
  ·cases h
  ·rename_i h'
   have ih:=readI_len h'
   split at h
   ·cases h
   ·split at h
    ·cases h
    ·injection h with h;injection h with h _;subst h;simp [ih]
theorem oneP_len {s:Bt} {E:List Ex} {g:Bool} (h:oneP s=some (E,g)):E.length=2:=by
 unfold oneP at h
 split at h
 ·exact sidesF_len h
 ·cases h
theorem cutF_ne:∀ (n:Nat) (g:UInt8) (s:Bt) (b:Nat) (d:Int) (i:Nat),cutF n g s b d i≠[]
 | 0,g,s,b,d,i=>by simp [cutF]
 | n+1,g,s,b,d,i=>by
  have ih:=cutF_ne n g s
  simp only [cutF]
  split
  ·simp
  ·split
   ·exact ih _ _ _
   ·split
    ·exact ih _ _ _
    ·split
     ·exact ih _ _ _
     ·split
      ·exact ih _ _ _
      ·split
       ·simp
       ·exact ih _ _ _
def OwnL (sz lo:Nat) (H':Heap) (v:AV) (l:List AV):Prop :=
 (∀ x∈l,x.cells.length=sz)∧((l=[]∧v=.nilslice)∨∃ id,v=.sl id 0 l.length sz∧H'[id]? =some (.cells (flat l))∧lo≤id∧l≠[])
theorem OwnL.nil {sz lo:Nat} {H':Heap}:OwnL sz lo H' .nilslice []:=⟨by simp,.inl ⟨rfl,rfl⟩⟩
theorem OwnL.mono {sz lo:Nat} {H' K:Heap} {v:AV} {l:List AV} (h:OwnL sz lo H' v l) (hk:∀ (j:Nat) (b:Blk),lo≤j→H'[j]? =some b→K[j]? =some b):OwnL sz lo K v l:=by
 obtain ⟨h0,h⟩:=h
 refine ⟨h0,?_⟩
 rcases h with h | ⟨id,a,b,c,d⟩
 ·exact .inl h
 ·exact .inr ⟨id,a,hk _ _ c b,c,d⟩
theorem OwnL.app {sz lo:Nat} {H':Heap} {v:AV} {l:List AV} (h:OwnL sz lo H' v l) (G:Heap):OwnL sz lo (H'++G) v l:=h.mono fun _ _ _ h=>z0H h
theorem flat_app (l m:List AV):flat (l++m)=flat l++flat m:=by simp [flat]
section steps
variable {P:Program} {H G:Heap} {al:AL} {K:KL} {Qp:AL→AV→Heap→Prop} {os:List IOper} {d:Nat} {x y z:Arg}
theorem st_appL {sz lo bytes:Nat} {v:AV} {l:List AV} {cs:List AV} {X:Heap} (hx:evL al x=v) (ho:OwnL sz lo X v l) (hy:evL al y=.sl X.length 0 1 sz) (hcs:cs.length=sz) (hsc:cs.all AV.scalar=true)
  (hb:(l.length+1)*bytes≤140737488355328) (hlo:lo≤X.length)
  (h:∀ v' H',OwnL sz lo H' v' (l++[.agg cs])→(∀ (j:Nat) (b:Blk),j<lo→X[j]? =some b→H'[j]? =some b)→X.length≤H'.length→VV P os ((d,v')::al) H' K Qp) :
  VV P (⟨some d,.i (.m (.append sz bytes)),[x,y],none,none⟩::os) al (X++[.cells cs]) K Qp:=by
 obtain ⟨h0,ho⟩:=ho
 have hel:∀ x∈l++[.agg cs],x.cells.length=sz:=by
  intro x hx
  rcases List.mem_append.1 hx with hx | hx
  ·exact h0 x hx
  ·rw [List.mem_singleton] at hx;subst hx;exact hcs
 rcases ho with ⟨rfl,rfl⟩ | ⟨id,rfl,h3,h4,h5⟩
 ·refine st_app0G (m:=1) (ys:=cs) hx (by rw [hy];exact srcOf_last (by omega)) (by omega) hsc (by simpa using hb) ?_
  refine h _ _ ⟨hel,.inr ⟨_,rfl,?_,by rw [List.length_append];omega,by simp⟩⟩ (fun j b hj hb=>z0H (z0H hb)) (by rw [List.length_append,List.length_append];omega)
  rw [z0Q]
  simp [flat,AV.cells]
 ·have hlt:=(List.getElem?_eq_some_iff.1 h3).1
  have hfl:(flat l).length=l.length*sz:=flat_len h0
  refine st_appG (m:=1) (ys:=cs) hx (z0H h3) (by omega) (by rw [hy];exact srcOf_last (by omega)) hsc hb ?_
  refine h _ _ ⟨hel,.inr ⟨(X++[Blk.cells cs]).length,by rw [show (l++[AV.agg cs]).length=l.length+1 by simp],?_,by rw [List.length_append];omega,by simp⟩⟩ (fun j b hj hb=>?_) (by rw [List.length_append,List.length_set,List.length_append];omega)
  ·rw [List.getElem?_append_right (by simp)]
   simp only [List.length_set,Nat.sub_self,List.getElem?_cons_zero]
   rw [List.drop_zero,←hfl,List.take_length,flat_app]
   simp [flat,AV.cells]
  ·have:=(List.getElem?_eq_some_iff.1 hb).1
   rw [List.getElem?_append_left (by simp;omega),List.getElem?_set,if_neg (by omega)]
   exact z0H hb
end steps
def lsV (sz:Nat) (l:List AV):AV:=if l.isEmpty then .nilslice else .list sz l
theorem OwnL.seal3 {sz:Nat} {H H':Heap} {v b c:AV} {l:List AV} (h:OwnL sz H.length H' v l) (hE:Ext H H') (hp:Plain (.tuple [lsV sz l,b,c])):Gives H (.tuple [lsV sz l,b,c]) (.ret (.tuple [v,b,c])) H':=by
 obtain ⟨h0,h⟩:=h
 rcases h with ⟨rfl,rfl⟩ | ⟨id,rfl,h3,h4,h5⟩
 ·exact z0M hE hp
 ·have he:lsV sz l=.list sz l:=by
   unfold lsV;rw [if_neg];simpa using h5
  obtain ⟨G',hG⟩:=hE.set (id:=id) (b:=.dead) h4
  refine ⟨_,G',rfl,.step id _ h3 (v':=.tuple [.list sz l,b,c]) (.tuple _ _ rfl fun i=>?_) (by rw [hG,he];exact .done _ _),hp⟩
  match i with
  | 0=>exact .sl 0 _ sz l rfl h0 (by rw [List.drop_zero,←flat_len h0,List.take_length]) (by rw [flat_len h0];omega)
  | 1=>exact .refl _
  | 2=>exact .refl _
  | i+3=>exact .refl _
theorem flatE_two {E:List Ex} (h:E.length=2):∃ x0 x1 x2 x3 x4 x5,flatE E=[x0,x1,x2,x3,x4,x5]:=by
 match E,h with
 | [.mk a b c d,.mk a' b' c' d'],_ =>
  refine ⟨.int .i64 a,.str b,lst c d,.int .i64 a',.str b',lst c' d',?_⟩
  rw [show ([Ex.mk a b c d,.mk a' b' c' d']:List Ex)=[Ex.mk a b c d]++[Ex.mk a' b' c' d'] from rfl,z2R,z0Y,z0Y];rfl
theorem plain_Pl (p:Pl):Plain (encPl p):=by
 obtain ⟨⟨a,b,c,d⟩,⟨a',b',c',d'⟩⟩:=p
 have:=plain_flatE [.mk a b c d,.mk a' b' c' d']
 rw [show ([Ex.mk a b c d,.mk a' b' c' d']:List Ex)=[Ex.mk a b c d]++[Ex.mk a' b' c' d'] from rfl,z2R,z0Y,z0Y] at this
 exact this
theorem plain_lsPl (l:List Pl):Plain (lsV 6 (l.map encPl)):=by
 unfold lsV;split
 ·exact Plain.nilslice
 ·exact Plain.list _ fun x hx=>by obtain ⟨p,_,rfl⟩:=List.mem_map.1 hx;exact plain_Pl p
theorem c117 (s:Bt) (hs:s.length≤6000) (H:Heap) :
  ACall PP 85 [.str s] H (Just H (match readP s with | some (ps,g)=>.tuple [lsV 6 (ps.map encPl),.bool g,.bool true] | none=>.tuple [.nilslice,.bool false,.bool false])):=by
 refine ACall.gives (is85.c1 z0W mixed rfl ?_)
 rw [List.append_nil]
 have hLs:∀ t∈cutS s 59,t.length≤s.length:=cutS_mem s 59
 have hLn:(cutS s 59).length≤100000:=cutS_le s 59 (by omega)
 have hL0:cutS s 59≠[]:=cutF_ne _ _ _ _ _ _
 refine z0E ?_
 refine z0F rfl (c173 s 59 (by omega) _) ?_
 have hw:=sl_W ⟨true,cutS s 59⟩
 simp only at hw
 have hwl:((cutS s 59).map AV.str).length=(cutS s 59).length:=List.length_map _
 unfold readP
 generalize encW ⟨true,cutS s 59⟩=lv at *
 generalize cutS s 59=L at *
 have hL1:=List.length_pos_iff.2 hL0
 generalize hR:readI L L.length=R at *
 have hdec:∀ i:Nat,decide (((i:Nat):Int)<((((L.map AV.str).length-1:Nat)):Int))=decide (i+1<L.length):=by
  intro i;rw [hwl];simp only [decide_eq_decide];omega
 refine z0E ?_
 refine z1B L.length (fun i al H'=>∃ ps g v,al=[(2,v),(3,.bool g),(5,lv),(13,lv),(14,.int .i64 ((L.map AV.str).length)),(15,.int .i64 i)]∧OwnL 6 H.length H' v (ps.map encPl)∧Ext H H'∧readI L i=some (ps,g))
  ⟨[],false,_,rfl,.nil,.refl _,rfl⟩ ?_
 rintro i _ V hi ⟨ps,g,v,rfl,hO,hE,hri⟩
 have hpl:=readI_len hri
 refine z0E ?_
 cases hc:decide ((i:Int)<((L.map AV.str).length:Int))
 ·simp only [decide_eq_false_iff_not,hwl] at hc
  obtain rfl:i=L.length:=by omega
  rw [hri] at hR
  subst hR
  refine z0E ?_
  refine z1G rfl (hO.seal3 hE (Plain.tuple ?_))
  intro x hx
  simp only [List.mem_cons,List.not_mem_nil,or_false] at hx
  rcases hx with rfl | rfl | rfl
  ·exact plain_lsPl ps
  ·exact Plain.bool _
  ·exact Plain.bool _
 simp only [decide_eq_true_eq,hwl] at hc
 obtain ⟨t,ht⟩:=z1E (l:=L) (i:=i) (by omega)
 have hmt:=map_str ht
 have htd:L.getD i []=t:=by rw [List.getD_eq_getElem?_getD,ht];rfl
 have htl:=hLs t (List.mem_of_getElem? ht)
 have hnx:readI L (i+1)=match trimP i L.length t with | none=>none | some t=>match oneP t with | none=>none | some (E,h)=>some (ps++[plOf E],g||h):=by
  rw [readI,hri];simp only;rw [htd];try rfl
 have hnone:readI L (i+1)=none→R=none:=fun h=>by rw [←hR];exact readI_none h (by omega)
 unfold trimP at hnx
 have hgt:decide ((i:Int)>0)=decide (0<i):=by simp only [decide_eq_decide];omega
 refine z0E ?_
 rw [hgt]
 refine wi_cut (fun al' H'=>H'=V∧(decide (0<i)&&t==[])=false∧((al'=[(2,v),(3,.bool g),(5,lv),(6,.int .i64 i),(7,.str (if decide (0<i) then t.drop 1 else t)),(13,lv),(14,.int .i64 ((L.map AV.str).length)),(15,.int .i64 i)]) ∨
  (al'=[(2,v),(3,.bool g),(5,lv),(6,.int .i64 i),(7,.str (if decide (0<i) then t.drop 1 else t)),(13,lv),(14,.int .i64 ((L.map AV.str).length)),(15,.int .i64 i),(21,.bool false)]))) ?_ ?_
 ·cases h0:decide (0<i)
  ·refine z0E ?_
   exact ⟨rfl,rfl,.inr rfl⟩
  ·rw [h0] at hnx
   refine z0E ?_
   cases ht0:(t==[])
   ·have ht1:1≤t.length:=by
     cases t with
     | nil=>cases ht0
     | cons=>simp
    refine z0E ?_
    exact ⟨rfl,rfl,.inl rfl⟩
   ·rw [ht0] at hnx
    rw [hnone hnx]
    refine z0E ?_
    exact z1G rfl (z0M hE (Plain.tuple (by
     intro x hx
     simp only [List.mem_cons,List.not_mem_nil,or_false] at hx
     rcases hx with rfl | rfl | rfl
     ·exact Plain.nilslice
     ·exact Plain.bool _
     ·exact Plain.bool _)))
 rintro al' V2 ⟨rfl,hok,hal⟩
 rw [hok] at hnx
 simp only [Bool.false_eq_true,if_false] at hnx
 generalize hs1:(if decide (0<i) then t.drop 1 else t)=s1 at *
 have hs1l:s1.length≤6000:=by
  rw [←hs1];split
  ·rw [List.length_drop];omega
  ·omega
 clear hs1
 rcases hal with rfl | rfl
 all_goals
  refine z0E ?_
  refine z3P (a:=(L.map AV.str).length) rfl (by rw [hwl];omega) (by rw [hwl];omega) ?_
  refine z0E ?_
  rw [hdec i]
  refine wi_cut (fun al' H'=>H'=V2∧∃ u,(if decide (i+1<L.length) then if s1==[]||s1.getD (s1.length-1) 0 != 32 then none else some (s1.take (s1.length-1)) else some s1)=some u∧u.length≤6000 ∧
   ((al'=[(2,v),(3,.bool g),(5,lv),(7,.str u),(13,lv),(14,.int .i64 ((L.map AV.str).length)),(15,.int .i64 i)])∨(al'=[(2,v),(3,.bool g),(5,lv),(7,.str u),(13,lv),(14,.int .i64 ((L.map AV.str).length)),(15,.int .i64 i),(30,.bool false)]))) ?_ ?_
  ·cases hlast:decide (i+1<L.length)
   ·refine z0E ?_
    exact ⟨rfl,s1,rfl,hs1l,.inr rfl⟩
   ·rw [hlast] at hnx
    simp only [if_true] at hnx ⊢
    refine z0E ?_
    cases hse:(s1==[])
    ·have h1:1≤s1.length:=by
      cases s1 with
      | nil=>cases hse
      | cons=>simp
     obtain ⟨c,hcl⟩:=z1E (l:=s1) (i:=s1.length-1) (by omega)
     have e32:((c.toNat:Int) != 32)=(c != 32):=by
      have:((c.toNat:Int)==32)=(c==32):=z3M c 32
      rw [bne,this];rfl
     rw [hse,getD_at hcl] at hnx
     rw [getD_at hcl]
     refine z0E ?_
     refine z3P rfl (by omega) (by omega) ?_
     refine z0E ?_
     rw [e32]
     cases hc32:(c != 32)
     ·refine z0E ?_
      refine z3P rfl (by omega) (by omega) ?_
      refine z4Y (i:=s1.length-1) rfl rfl (by omega) ?_
      refine z0E ?_
      exact ⟨rfl,_,rfl,by rw [List.length_take];omega,.inl rfl⟩
     ·rw [hc32] at hnx
      rw [hnone hnx]
      refine z0E ?_
      exact z1G rfl (z0M hE (Plain.tuple (by
       intro x hx
       simp only [List.mem_cons,List.not_mem_nil,or_false] at hx
       rcases hx with rfl | rfl | rfl
       ·exact Plain.nilslice
       ·exact Plain.bool _
       ·exact Plain.bool _)))
    ·rw [hse] at hnx
     rw [hnone hnx]
     refine z0E ?_
     exact z1G rfl (z0M hE (Plain.tuple (by
      intro x hx
      simp only [List.mem_cons,List.not_mem_nil,or_false] at hx
      rcases hx with rfl | rfl | rfl
      ·exact Plain.nilslice
      ·exact Plain.bool _
      ·exact Plain.bool _)))
  rintro al' V3 ⟨rfl,u,hu,hul,hal⟩
  rw [hu] at hnx
  simp only at hnx
  have k174:=c174 u hul V3
  rcases hal with rfl | rfl
  all_goals
   cases hone:oneP u with
   | none =>
    rw [hone] at k174 hnx
    simp only at k174 hnx
    rw [hnone hnx]
    refine z0E ?_
    refine z0F rfl k174 ?_
    refine z0E ?_
    refine z1H (ws:=Z6) rfl rfl rfl rfl rfl rfl ?_
    refine z0E ?_
    exact z1G rfl (z0M (hE.app _) (Plain.tuple (by
     intro x hx
     simp only [List.mem_cons,List.not_mem_nil,or_false] at hx
     rcases hx with rfl | rfl | rfl
     ·exact Plain.nilslice
     ·exact Plain.bool _
     ·exact Plain.bool _)))
   | some q =>
    obtain ⟨E,h2⟩:=q
    have hEl:=oneP_len hone
    rw [hone] at k174 hnx
    simp only at k174 hnx
    have hpe:=enc_plOf hEl
    obtain ⟨x0,x1,x2,x3,x4,x5,hfl⟩:=flatE_two hEl
    have hsc:=z5R E
    rw [hfl] at k174 hpe hsc
    refine z0E ?_
    refine z0F rfl k174 ?_
    refine z0E ?_
    refine z1H rfl rfl rfl rfl rfl hsc ?_
    have hb8:(V3++[Blk.cells [x0,x1,x2,x3,x4,x5]])[V3.length]? =some (.cells [x0,x1,x2,x3,x4,x5]):=z0Q
    have hO2:=hO.app [Blk.cells [x0,x1,x2,x3,x4,x5]]
    have hE2:=hE.app [Blk.cells [x0,x1,x2,x3,x4,x5]]
    generalize (V3++[Blk.cells [x0,x1,x2,x3,x4,x5]]:Heap)=W at *
    refine z0E ?_
    refine z3Y [(2,v),(3,.bool (g||h2)),(5,lv),(8,.ptr V3.length 0),(13,lv),(14,.int .i64 ((L.map AV.str).length)),(15,.int .i64 i)] W ?_ ?_
    ·cases g
     ·refine z0E ?_
      exact z0Z rfl rfl
     ·refine z0E ?_
      exact z0Z rfl rfl
    refine z0E ?_
    refine z0V (out:=[x0,x1,x2,x3,x4,x5]) rfl ?_
    refine st_appL (lo:=H.length) (sz:=6) (l:=ps.map encPl) (cs:=[x0,x1,x2,x3,x4,x5]) rfl hO2 rfl rfl hsc (by rw [List.length_map];omega) hE2.len ?_
    intro v' H'' hO3 hold hlen
    rw [←hpe,show ps.map encPl++[encPl (plOf E)]=(ps++[plOf E]).map encPl by simp] at hO3
    refine z0E ?_
    exact ⟨by omega,ps++[plOf E],g||h2,v',rfl,hO3,ext_old fun j b hj=>hold j b (List.getElem?_eq_some_iff.1 hj).1 (hE2.get hj),hnx⟩
section steps
variable {P:Program} {H G:Heap} {al:AL} {K:KL} {Qp:AL→AV→Heap→Prop} {os:List IOper} {d:Nat} {x y z:Arg}
theorem st_slFromL {sz i:Nat} {xs:List AV} (hx:evL al x=.list sz xs) (hy:evL al y=.int .i64 i) (hi:i≤xs.length) (h:VV P os ((d,.list sz (xs.drop i))::al) H K Qp) :
  VV P (⟨some d,.i (.d (.sliceSl sz true false)),[x,y],none,none⟩::os) al H K Qp:=by
 refine z2Z (v:=.list sz (xs.drop i)) ?_ h
 have hb:bounds xs.length true false [.int .i64 (i:Int)]=some (i,xs.length):=by
  simp only [bounds];rw [if_pos ⟨by omega,by omega⟩];simp
 simp only [evsL,hx,hy,dsem,dslice,if_true,hb]
 rw [List.take_of_length_le (by simp)]
end steps
theorem cells_one {v:AV} (h:AV.scalar v=true):v.cells=[v]:=by cases v<;>first | rfl | cases h
theorem shaped_one {v:AV} (h:AV.scalar v=true):v.shaped=true:=by cases v<;>first | rfl | cases h
theorem setAt_one {cs:List AV} {off:Nat} {v:AV} (ho:off<cs.length):setAt cs off [v]=cs.set off v:=by
 rw [List.set_eq_take_append_cons_drop,if_pos ho];simp [setAt]
theorem z5C {P:Program} {H:Heap} {al:AL} {K:KL} {Qp:AL→AV→Heap→Prop} {os:List IOper} {x y:Arg} {id off:Nat} {cs:List AV} {v:AV} (hx:evL al x=.ptr id off) (hy:evL al y=v) (hg:H[id]? =some (.cells cs))
  (hsc:AV.scalar v=true) (ho:off<cs.length) (h:VV P os al (H.set id (.cells (cs.set off v))) K Qp):VV P (⟨none,.i (.m (.store 1)),[x,y],none,none⟩::os) al H K Qp:=by
 refine z0X v hx hy hg ?_ ?_ rfl h
 ·rw [shaped_one hsc,cells_one hsc]
  simp [hsc];omega
 ·rw [cells_one hsc];exact setAt_one ho
def plcP (l:List Bt) (p:Nat):Option (List Pl × Bool):=if p==l.length then none else readP (Lib.join (l.drop p) [32])
theorem c56 {rid oid p:Nat} {l:List Bt} {g:Bool} {H:Heap} {k pv lv b:AV} (hg:H[rid]? =some (RR l p g)) (hp:p≤l.length) (hl:l.length≤1000000) (ho:H[oid]? =some (.cells [k,pv,lv,b])) (hne:rid≠oid) (hlv:AV.scalar lv=true)
  (hj:(Lib.join (l.drop p) [32]).length≤6000) :
  ACall PP 40 [.ptr rid 0,.ptr oid 0] H (fun r H'=>match plcP l p with
   | some (ps,h)=>r=.ret (.bool true)∧H'=(H.set oid (.cells [k,pv,lsV 6 (ps.map encPl),b])).set rid (RR l p (g||h))
   | none=>r=.ret (.bool false)∧(∃ q,H'[rid]? =some (RR l p q))∧(∃ lw,AV.scalar lw=true∧H'[oid]? =some (.cells [k,pv,lw,b]))∧∀ (j:Nat) (b:Blk),j≠rid→j≠oid→H[j]? =some b→H'[j]? =some b):=by
 refine is40.c2 z0W mixed rfl ?_
 rw [List.append_nil]
 have hsl2:(l.map AV.str).length=l.length:=List.length_map _
 have e1:((p:Int)==((l.map AV.str).length:Int))=(p==l.length):=by rw [hsl2];exact nat_eq _ _
 have hsl:=sl_strs l
 unfold plcP
 refine z0D ?_
 rw [e1]
 cases hpe:(p==l.length)
 rotate_left
 ·simp only [if_true]
  refine z0D ?_
  exact z1G rfl ⟨rfl,⟨g,hg⟩,⟨lv,hlv,ho⟩,fun j b _ _ h=>h⟩
 simp only [Bool.false_eq_true,if_false]
 refine z0D ?_
 refine st_slFromL (i:=p) rfl rfl (by omega) ?_
 rw [←List.map_drop]
 refine z0D ?_
 refine z0F rfl (z3N (n:=(l.drop p).length) (srcOf_strs _) (by rw [List.length_drop];omega) (by omega)) ?_
 have k117:=c117 (Lib.join (l.drop p) [32]) hj H
 generalize Lib.join (l.drop p) [32]=tx at *
 refine z0D ?_
 refine z0F rfl k117 ?_
 have fin:∀ (lv':AV) (gg:Bool),AV.scalar lv'=true→(H.set oid (.cells [k,pv,lv',b]))[rid]? =some (RR l p g):=fun _ _ _=>z0A hg hne
 cases hr:readP tx with
 | none =>
  simp only
  refine z0D ?_
  refine z0X (cs':=[k,pv,.nilslice,b]) .nilslice rfl rfl ho rfl rfl rfl ?_
  have hg2:=fin .nilslice g rfl
  have ho2:∀ (j:Nat) (b':Blk),j≠rid→j≠oid→H[j]? =some b'→(H.set oid (.cells [k,pv,.nilslice,b]))[j]? =some b':=fun j b' _ h2 h=>z0A h h2
  have ho3:=z0C (y:=Blk.cells [k,pv,.nilslice,b]) ho
  generalize H.set oid (.cells [k,pv,.nilslice,b])=X at *
  refine z0D ?_
  cases g
  ·refine z0D ?_
   refine z0X (cs':=[.list 1 (l.map .str),.int .i64 p,.bool false]) (.bool false) rfl rfl hg2 rfl rfl rfl ?_
   refine z0D ?_
   exact z1G rfl ⟨rfl,⟨_,z0C hg2⟩,⟨.nilslice,rfl,z0A ho3 (fun e=>hne e.symm)⟩,fun j b' h1 h2 h=>z0A (ho2 j b' h1 h2 h) h1⟩
  ·refine z0D ?_
   refine z0X (cs':=[.list 1 (l.map .str),.int .i64 p,.bool true]) (.bool true) rfl rfl hg2 rfl rfl rfl ?_
   refine z0D ?_
   exact z1G rfl ⟨rfl,⟨_,z0C hg2⟩,⟨.nilslice,rfl,z0A ho3 (fun e=>hne e.symm)⟩,fun j b' h1 h2 h=>z0A (ho2 j b' h1 h2 h) h1⟩
 | some q =>
  obtain ⟨ps,h2⟩:=q
  simp only
  have hsc:AV.scalar (lsV 6 (ps.map encPl))=true:=by unfold lsV;split<;>rfl
  generalize lsV 6 (ps.map encPl)=lw at *
  refine z0D ?_
  refine z5C (v:=lw) rfl rfl ho hsc (by simp) ?_
  show VV _ _ _ (H.set oid (.cells [k,pv,lw,b])) _ _
  have hg2:=fin lw g hsc
  generalize H.set oid (.cells [k,pv,lw,b])=X at *
  refine z0D ?_
  cases g
  ·refine z0D ?_
   refine z0X (cs':=[.list 1 (l.map .str),.int .i64 p,.bool h2]) (.bool h2) rfl rfl hg2 rfl rfl rfl ?_
   refine z0D ?_
   exact z1G rfl ⟨rfl,rfl⟩
  ·refine z0D ?_
   refine z0X (cs':=[.list 1 (l.map .str),.int .i64 p,.bool true]) (.bool true) rfl rfl hg2 rfl rfl rfl ?_
   refine z0D ?_
   exact z1G rfl ⟨rfl,rfl⟩
def unB (s:Bt) (w:List Bt):List Bt:=if s==[91,93] then [] else w
def ruleF (l:List Bt):Nat→Nat→Int→List Pr→Bool→Option (Ru × Bool)
 | 0,_,_,_,_=>none
 | n+1,p,kd,prs,g=>match wordP (l.getD p []) with
  | none=>none
  | some w1 =>
   if decide (kOf (l.getD (p+1) [])<0)||(decide (kd≥0)&&kOf (l.getD (p+1) []) != kd) then none else
   match wordP (l.getD (p+2) []) with
   | none=>none
   | some w2 =>
    let k:=kOf (l.getD (p+1) [])
    let prs':=prs++[⟨⟨true,unB (l.getD p []) w1⟩,⟨true,unB (l.getD (p+2) []) w2⟩⟩]
    let g':=g||greatW (l.getD p [])||greatW (l.getD (p+2) [])
    if p+3==l.length then some (⟨k,true,prs',true,[],false⟩,g') else
    if l.getD (p+3) []==[44] then ruleF l n (p+4) k prs' g' else
    if l.getD (p+3) []==[124,124] then match plcP l (p+4) with
     | none=>none
     | some (ps,h)=>some (⟨k,true,prs',true,ps,false⟩,g'||h)
    else if l.getD (p+3) []==[47,47] then match plcP l (p+4) with
     | none=>none
     | some (ps,h)=>some (⟨k,true,prs',true,ps,true⟩,g'||h)
    else none
def ruleP (l:List Bt):Option (Ru × Bool):=ruleF l (l.length+1) 0 (-1) [] false
theorem wordP_lt {l:List Bt} {p:Nat} {w:List Bt} (h:wordP (l.getD p [])=some w):p<l.length:=by
 refine Classical.byContradiction fun hn=>?_
 rw [List.getD_eq_getElem?_getD,List.getElem?_eq_none (by omega)] at h
 cases h
theorem kOf_lt {l:List Bt} {p:Nat} (h:decide (kOf (l.getD p [])<0)=false):p<l.length:=by
 refine Classical.byContradiction fun hn=>?_
 rw [List.getD_eq_getElem?_getD,List.getElem?_eq_none (by omega)] at h
 revert h;decide
theorem getD_get {α:Type} {l:List α} {p:Nat} {d:α} (h:p<l.length):l[p]? =some (l.getD p d):=by
 rw [List.getD_eq_getElem?_getD,List.getElem?_eq_getElem h];rfl
theorem encLs_lsV (ps:List Pl):encLs true ps=lsV 6 (ps.map encPl):=by
 unfold encLs lsV
 cases ps<;>rfl
end Go.Ab
