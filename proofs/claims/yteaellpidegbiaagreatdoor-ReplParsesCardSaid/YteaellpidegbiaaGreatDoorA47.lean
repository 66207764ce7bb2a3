/- Part 47 of the proof. -/
import Derived.Test.YteaellpidegbiaaGreatDoorA46
set_option linter.unusedVariables false
set_option linter.unusedSimpArgs false
namespace Go.Ab
open Go
set_option maxRecDepth 100000
set_option maxHeartbeats 8000000
theorem res59 {al:AL} {H':Heap} {n:Nat} {cs:List AV} {b:AV} (h2:look al 2=.ptr n 0) (h3:look al 3=b) (hg:H'[n]? =some (.cells cs)) (hl:cs.length=6) :
  resultL ic59.rs al H'=some (.tuple [.agg cs,b]):=by
 have hd:dpart (some 6) cs 0=some (.agg cs):=dpart_all hl
 have e:rload (some 6) (look al 2) H'=some (.agg cs):=by rw [h2];simp only [rload,hg,hd]
 show (match resVL [.cell 2 (some 6),.tmp 3] al H' with | some [v]=>some v | some vs=>some (.tuple vs) | none=>none)=_
 simp only [resVL,e,h3]
def PlP (H:Heap) (rid:Nat) (l:List Bt) (p:Nat) (bad:Int) (g:Bool) (x:Option (Ex × Ex × Int × Int × Nat)):CPost:=fun r H'=>match x with
 | none=>(∃ cs,cs.length=6∧cs.all AV.scalar=true∧r=.ret (.tuple [.agg cs,.bool false]))∧∃ b,Mod H rid b H'
 | some (a,b,fa,fb,k)=>r=.ret (.tuple [encPl (a,b),.bool true])∧Mod H rid (RF l (p+k) (frs1 (frs1 bad fa) fb) g) H'
theorem st_side {H:Heap} {al:AL} {K:KL} {Qp:AL→AV→Heap→Prop} {os:List IOper} {d:Nat} {as_:List Arg} {rid p:Nat} {l:List Bt} {bad:Int} {g:Bool} {sg:Bt} (ha:evsL al as_=[.ptr rid 0,.str sg])
  (hg:H[rid]? =some (RF l p bad g)) (hp:p≤l.length) (hl:l.length≤100000) (hls:∀ y∈l,y.length≤6000) (hj:(Lib.join (l.drop p) [32]).length≤6000)
  (h:∀ op t nl l' f k H',sideR sg (l.drop p)=some (.mk op t nl l',f,k)→Mod H rid (RF l (p+k) (frs1 bad f) g) H'→VV PP os ((d,.tuple [.agg [.int .i64 op,.str t,lst nl l'],.bool true])::al) H' K Qp)
  (hn:∀ b H',sideR sg (l.drop p)=none→Mod H rid b H'→VV PP os ((d,.tuple [.agg [.int .i64 0,.str [],.nilslice],.bool false])::al) H' K Qp):VV PP (⟨some d,.callF 120,as_,none,none⟩::os) al H K Qp:=by
 refine z1H ha (c120 hg hp hl hls hj) ?_ ?_
 ·intro v H' hv
  unfold SdP at hv
  cases hs:sideR sg (l.drop p) with
  | none =>
   rw [hs] at hv
   obtain ⟨hv,b,hm⟩:=hv
   cases hv
   rw [enc_Z0]
   exact hn b H' hs hm
  | some x =>
   obtain ⟨⟨op,t,nl,l'⟩,f,k⟩:=x
   rw [hs] at hv
   obtain ⟨hv,hm⟩:=hv
   cases hv
   rw [z0X]
   exact h _ _ _ _ _ _ H' hs hm
 ·intro v H' hv
  unfold SdP at hv
  cases hs:sideR sg (l.drop p) with
  | none=>rw [hs] at hv;cases hv.1
  | some x=>obtain ⟨e,f,k⟩:=x;rw [hs] at hv;cases hv.1
theorem sideR_le {sg:Bt} {ps:List Bt} {e:Ex} {f:Int} {k:Nat} (h:sideR sg ps=some (e,f,k)):k≤ps.length:=by
 unfold sideR at h
 simp only at h
 have:=takS_le sg 0 ps
 split at h
 ·injection h with h;injection h with _ h;injection h with _ h;omega
 ·split at h
  ·cases h
  ·split at h
   ·cases h
   ·split at h
    ·injection h with h;injection h with _ h;injection h with _ h;omega
    ·injection h with h;injection h with _ h;injection h with _ h;omega
theorem c59 {rid p:Nat} {l:List Bt} {bad:Int} {g:Bool} {H:Heap} (hg:H[rid]? =some (RF l p bad g)) (hp:p≤l.length) (hl:l.length≤100000) (hls:∀ y∈l,y.length≤6000) (hj:(Lib.join (l.drop p) [32]).length≤6000) :
  ACall PP 59 [.ptr rid 0] H (PlP H rid l p bad g (placeR (l.drop p))):=by
 have hrl:=(List.getElem?_eq_some_iff.1 hg).1
 have hpl:placeR (l.drop p)=match sideR [95] (l.drop p) with
   | none=>none
   | some (a,fa,k)=>if decide (k<(l.drop p).length)&&(l.drop p).getD k []==[95] then
     match sideR [59] ((l.drop p).drop (k+1)) with
     | none=>none
     | some (b,fb,j)=>some (a,b,fa,fb,k+1+j)
    else none:=rfl
 generalize placeR (l.drop p)=pl at *
 refine is59.c1 z0V mixed rfl ?_
 rw [List.append_nil]
 have m0:Mod H rid (RF l p bad g) (H++[Blk.cells Z6]):=(Mod.refl hg).app _
 have hb0:(H++[Blk.cells Z6])[H.length]? =some (.cells Z6):=z0K
 have hbad:pl=none→∀ {G:Heap} {al:AL} {cs:List AV},look al 2=.ptr H.length 0→look al 3=.bool false→G[H.length]? =some (.cells cs)→cs.length=6→cs.all AV.scalar=true→(∃ b,Mod H rid b G)→fpostL ic59.rs (PlP H rid l p bad g pl) .ret al G:=by
  intro hn G al cs h1 h2 h3 h4 h5 h6
  subst hn
  exact z1G (res59 h1 h2 h3 h4) ⟨⟨cs,h4,h5,rfl⟩,h6⟩
 refine z0B ?_
 refine st_side rfl m0.get hp hl hls hj ?_ ?_
 rotate_left
 ·intro b H1 hs hm
  rw [hs] at hpl
  simp only at hpl
  have hb1:=hm.old _ _ (by omega) hb0
  have m1:=m0.trans hm
  refine z0B ?_
  refine z0T rfl rfl rfl rfl rfl rfl ?_
  have hb2:=z0F (G:=[Blk.cells [.int .i64 0,.str [],.nilslice]]) hb1
  have m2:=m1.app [Blk.cells [.int .i64 0,.str [],.nilslice]]
  generalize (H1++[Blk.cells [.int .i64 0,.str [],.nilslice]]:Heap)=H2 at *
  refine z0B ?_
  refine z0L (out:=Z6) rfl rfl ?_
  refine z3A rfl rfl hb2 rfl rfl rfl ?_
  refine z0B ?_
  exact hbad hpl rfl rfl (z0C hb2) rfl rfl ⟨_,m2.own (Nat.le_refl _) (by omega)⟩
 intro op t nl l1 fa k H1 hs hm
 rw [hs] at hpl
 simp only at hpl
 have hkl:=sideR_le hs
 rw [List.length_drop] at hkl
 have hb1:=hm.old _ _ (by omega) hb0
 have m1:=m0.trans hm
 refine z0B ?_
 refine z0T rfl rfl rfl rfl rfl z1C ?_
 have hb2:=z0F (G:=[Blk.cells [.int .i64 op,.str t,lst nl l1]]) hb1
 have m2:=m1.app [Blk.cells [.int .i64 op,.str t,lst nl l1]]
 have h4:(H1++[Blk.cells [.int .i64 op,.str t,lst nl l1]])[H1.length]? =some (.cells [.int .i64 op,.str t,lst nl l1]):=z0K
 have hl1:=(List.getElem?_eq_some_iff.1 hb1).1
 generalize (H1++[Blk.cells [.int .i64 op,.str t,lst nl l1]]:Heap)=H2 at *
 generalize H1.length=i4 at *
 clear hb1 m1 hm H1
 have e1:(decide (k<(l.drop p).length)&&(l.drop p).getD k []==[95])=(decide (p+k<l.length)&&l.getD (p+k) []==[95]):=by
  congr 1
  ·rw [List.length_drop];simp only [decide_eq_decide];omega
  ·rw [List.getD_eq_getElem?_getD,List.getD_eq_getElem?_getD,List.getElem?_drop]
 rw [e1] at hpl
 have k58:=c58 (t:=[95]) m2.get (by omega) (by omega)
 refine z0B ?_
 refine z1H rfl k58 ?_ ?_
 rotate_left
 ·rintro v H' ⟨hv,_⟩;cases hv
 rintro v H3 ⟨hv,rfl⟩
 cases hv
 cases his:(decide (p+k<l.length)&&l.getD (p+k) []==[95])
 ·rw [his] at hpl
  simp only [Bool.false_eq_true,if_false] at hpl ⊢
  have hb3:=z0A (y:=RF l (p+k) (frs1 bad fa) g) hb2 (show H.length≠rid by omega)
  have m3:Mod H rid (RF l (p+k) (frs1 bad fa) g) (H2.set rid (RF l (p+k) (frs1 bad fa) g)):=m2.put
  generalize H2.set rid (RF l (p+k) (frs1 bad fa) g)=H3 at *
  refine z0B ?_
  refine z0L (out:=Z6) rfl rfl ?_
  refine z3A rfl rfl hb3 rfl rfl rfl ?_
  refine z0B ?_
  exact hbad hpl rfl rfl (z0C hb3) rfl rfl ⟨_,m3.own (Nat.le_refl _) (by omega)⟩
 rw [his] at hpl
 simp only [if_true] at hpl ⊢
 simp only [Bool.and_eq_true,decide_eq_true_eq] at his
 have hb3:=z0A (y:=RF l (p+k+1) (frs1 bad fa) g) hb2 (show H.length≠rid by omega)
 have h43:=z0A (y:=RF l (p+k+1) (frs1 bad fa) g) h4 (show i4≠rid by omega)
 have m3:Mod H rid (RF l (p+k+1) (frs1 bad fa) g) (H2.set rid (RF l (p+k+1) (frs1 bad fa) g)):=m2.put
 generalize H2.set rid (RF l (p+k+1) (frs1 bad fa) g)=H3 at *
 clear hb2 h4 m2 k58 e1
 clear H2
 have hdd:(l.drop p).drop (k+1)=l.drop (p+k+1):=by rw [List.drop_drop];rfl
 rw [hdd] at hpl
 have hjd:(Lib.join (l.drop (p+k+1)) [32]).length≤6000:=by
  have:=z3Z [32] (l.drop p) (k+1)
  rw [hdd] at this;omega
 refine z0B ?_
 refine st_side rfl m3.get (by omega) hl hls hjd ?_ ?_
 ·intro op2 t2 nl2 l2 fb j H4 hs2 hm
  rw [hs2] at hpl
  simp only at hpl
  have hb4:=hm.old _ _ (by omega) hb3
  have h44:=hm.old _ _ (by omega) h43
  have m4:=m3.trans hm
  refine z0B ?_
  refine z0T rfl rfl rfl rfl rfl z1C ?_
  have hb5:=z0F (G:=[Blk.cells [.int .i64 op2,.str t2,lst nl2 l2]]) hb4
  have h45:=z0F (G:=[Blk.cells [.int .i64 op2,.str t2,lst nl2 l2]]) h44
  have m5:=m4.app [Blk.cells [.int .i64 op2,.str t2,lst nl2 l2]]
  have h6:(H4++[Blk.cells [.int .i64 op2,.str t2,lst nl2 l2]])[H4.length]? =some (.cells [.int .i64 op2,.str t2,lst nl2 l2]):=z0K
  generalize (H4++[Blk.cells [.int .i64 op2,.str t2,lst nl2 l2]]:Heap)=H5 at *
  generalize H4.length=i6 at *
  refine z0B ?_
  refine z0L (out:=[.int .i64 op,.str t,lst nl l1,.int .i64 op2,.str t2,lst nl2 l2]) rfl rfl ?_
  refine z0B ?_
  refine z3A rfl rfl hb5 rfl rfl all_Pl ?_
  refine z0B ?_
  subst hpl
  exact z1G (res59 rfl rfl (z0C hb5) rfl) ⟨rfl,by
   have:=m5.own (x:=.cells [.int .i64 op,.str t,lst nl l1,.int .i64 op2,.str t2,lst nl2 l2]) (id:=H.length) (Nat.le_refl _) (by omega)
   rw [show p+(k+1+j)=p+k+1+j by omega]
   exact this⟩
 ·intro b H4 hs2 hm
  rw [hs2] at hpl
  simp only at hpl
  have hb4:=hm.old _ _ (by omega) hb3
  have h44:=hm.old _ _ (by omega) h43
  have m4:=m3.trans hm
  refine z0B ?_
  refine z0T rfl rfl rfl rfl rfl rfl ?_
  have hb5:=z0F (G:=[Blk.cells [.int .i64 0,.str [],.nilslice]]) hb4
  have h45:=z0F (G:=[Blk.cells [.int .i64 0,.str [],.nilslice]]) h44
  have m5:=m4.app [Blk.cells [.int .i64 0,.str [],.nilslice]]
  have h6:(H4++[Blk.cells [.int .i64 0,.str [],.nilslice]])[H4.length]? =some (.cells [.int .i64 0,.str [],.nilslice]):=z0K
  generalize (H4++[Blk.cells [.int .i64 0,.str [],.nilslice]]:Heap)=H5 at *
  generalize H4.length=i6 at *
  refine z0B ?_
  refine z0L (out:=[.int .i64 op,.str t,lst nl l1,.int .i64 0,.str [],lst true []]) rfl rfl ?_
  refine z0B ?_
  refine z3A rfl rfl hb5 rfl rfl all_Pl ?_
  refine z0B ?_
  exact hbad hpl rfl rfl (z0C hb5) rfl all_Pl ⟨_,m5.own (Nat.le_refl _) (by omega)⟩
def prR (l:List Bt):Nat→Nat→Int→List Pr→Bool→Option (Int × List Pr × Nat × Bool)
 | 0,_,_,_,_=>none
 | n+1,p,kd,prs,lg =>
  if !(decide (p<l.length)&&decide (pcA l p<l.length)&&decide (pcA l (pcA l p)<l.length)&&wkR (l.getD p [])&&wkR (l.getD (pcA l (pcA l p)) [])&&decide (kOf (l.getD (pcA l p) [])≥0)) ||
    (decide (kd≥0)&&kd != kOf (l.getD (pcA l p) [])) then none
  else if decide (pcA l (pcA l (pcA l p))<l.length)&&l.getD (pcA l (pcA l (pcA l p))) []==[44] then
   prR l n (pcA l (pcA l (pcA l p))+1) (kOf (l.getD (pcA l p) [])) (prs++[⟨wdR (l.getD p []),wdR (l.getD (pcA l (pcA l p)) [])⟩]) (lg||decide (((l.getD p []).length:Int)>400)||decide (((l.getD (pcA l (pcA l p)) []).length:Int)>400))
  else some (kOf (l.getD (pcA l p) []),prs++[⟨wdR (l.getD p []),wdR (l.getD (pcA l (pcA l p)) [])⟩],pcA l (pcA l (pcA l p)),lg||decide (((l.getD p []).length:Int)>400)||decide (((l.getD (pcA l (pcA l p)) []).length:Int)>400))
def wholeR (l:List Bt):Option (Ru × Int × Bool):=match prR l (l.length+1) 0 (-1) [] false with
 | none=>none
 | some (kd,prs,q,lg) =>
  if q==l.length then some (⟨kd,true,prs,true,[],false⟩,0,lg)
  else if decide (q<l.length)&&l.getD q []==[47,47] then match plsR (l.length+1) (l.drop (q+1)) [] 0 with
   | none=>none
   | some (ps,bad)=>some (⟨kd,true,prs,true,ps,true⟩,bad,lg)
  else if decide (q<l.length)&&l.getD q []==[124,124] then match plsR (l.length+1) (l.drop (q+1)) [] 0 with
   | none=>none
   | some (ps,bad)=>some (⟨kd,true,prs,true,ps,false⟩,bad,lg)
  else none
def RwS (H:Heap) (rid:Nat) (l:List Bt) (x:Option (Ru × Int × Bool)) (v:AV) (K:Heap):Prop :=
 (∀ (j:Nat) (b:Blk),j≠rid→H[j]? =some b→K[j]? =some b)∧match x with
 | some (r,bad,lg)=>v=.tuple [encR r,.bool true]∧∃ q,K[rid]? =some (RF l q bad lg)
 | none=>∃ a b c d,v=.tuple [.agg [a,b,c,d],.bool false]∧([a,b,c,d]:List AV).all AV.scalar=true
theorem res22 {al:AL} {H':Heap} {n:Nat} {cs:List AV} {a:AV} (h2:look al 2=.ptr n 0) (h3:look al 3=a) (hg:H'[n]? =some (.cells cs)) (hl:cs.length=4) :
  resultL ic22.rs al H'=some (.tuple [.agg cs,a]):=by
 have hd:dpart (some 4) cs 0=some (.agg cs):=dpart_all hl
 have e:rload (some 4) (look al 2) H'=some (.agg cs):=by rw [h2];simp only [rload,hg,hd]
 show (match resVL [.cell 2 (some 4),.tmp 3] al H' with | some [v]=>some v | some vs=>some (.tuple vs) | none=>none)=_
 simp only [resVL,e,h3]
theorem fail22 {H K:Heap} {rid n:Nat} {l:List Bt} {x:Option (Ru × Int × Bool)} {a b c d:AV} (hx:x=none) (hs:([a,b,c,d]:List AV).all AV.scalar=true)
  (hold:∀ (j:Nat) (b:Blk),j≠rid→H[j]? =some b→K[j]? =some b):EndsX n (RwS H rid l x) (fun _ _=>False) (.ret (.tuple [.agg [a,b,c,d],.bool false])) K:=by
 subst hx
 exact .inl ⟨_,_,K,rfl,.done _ _,hold,a,b,c,d,rfl,hs⟩
theorem ok22 {H K:Heap} {rid q lo2:Nat} {l:List Bt} {lg below:Bool} {bad:Int} {x:Option (Ru × Int × Bool)} {kd:Int} {pv lv:AV} {prs:List Pr} {ps:List Pl} (hx:x=some ((⟨kd,true,prs,true,ps,below⟩:Ru),bad,lg))
  (hO:∃ id,pv=.sl id 0 (prs.map encP).length 2∧K[id]? =some (.cells (flat (prs.map encP)))∧H.length≤id∧id<lo2) (h0:∀ x∈prs.map encP,x.cells.length=2) (hO2:OwnL 6 lo2 K lv (ps.map encPl)) (hne:prs≠[]) (hr:rid<H.length)
  (hg:K[rid]? =some (RF l q bad lg)) (hold:∀ (j:Nat) (b:Blk),j≠rid→H[j]? =some b→K[j]? =some b) :
  EndsX H.length (RwS H rid l x) (fun _ _=>False) (.ret (.tuple [.agg [.int .i64 kd,pv,lv,.bool below],.bool true])) K:=by
 subst hx
 obtain ⟨id,rfl,h3,h4,h6⟩:=hO
 have hlj:∀ (j:Nat) (b:Blk),H[j]? =some b→j<H.length:=fun j b h=>(List.getElem?_eq_some_iff.1 h).1
 have he:encPs true prs=.list 2 (prs.map encP):=by
  unfold encPs;rw [if_neg];simpa using hne
 have s1:SealX id (flat (prs.map encP)) (.tuple [.agg [.int .i64 kd,.sl id 0 (prs.map encP).length 2,lv,.bool below],.bool true]) (.tuple [.agg [.int .i64 kd,.list 2 (prs.map encP),lv,.bool below],.bool true]):=by
  refine .base _ _ (.tuple _ _ rfl fun i=>?_)
  match i with
  | 0 =>
   refine .agg _ _ rfl fun i=>?_
   match i with
   | 0=>exact .refl _
   | 1=>exact .sl 0 _ 2 _ rfl h0 (by rw [List.drop_zero,←flat_len h0,List.take_length]) (by rw [flat_len h0];omega)
   | 2=>exact .refl _
   | 3=>exact .refl _
   | i+4=>exact .refl _
  | 1=>exact .refl _
  | i+2=>exact .refl _
 have hd:∀ (j:Nat) (b:Blk),j≠rid→H[j]? =some b→(K.set id .dead)[j]? =some b:=fun j b h1 h2=>z0A (hold j b h1 h2) (by have:=hlj j b h2;omega)
 have hgd:(K.set id .dead)[rid]? =some (RF l q bad lg):=z0A hg (by omega)
 obtain ⟨k0,⟨e1,rfl⟩ | ⟨id2,rfl,k3,k4,k5⟩⟩:=hO2
 ·refine .inl ⟨_,.tuple [encR ⟨kd,true,prs,true,ps,below⟩,.bool true],K.set id .dead,rfl,.step id _ h4 h3 s1 ?_,hd,rfl,q,hgd⟩
  have:encR ⟨kd,true,prs,true,ps,below⟩=.agg [.int .i64 kd,.list 2 (prs.map encP),.nilslice,.bool below]:=by
   unfold encR
   simp only
   rw [he,encLs_lsV]
   have:ps=[]:=by simpa using e1
   subst this;rfl
  rw [this]
  exact .done _ _
 ·have hl6:encLs true ps=.list 6 (ps.map encPl):=by
   rw [encLs_lsV];unfold lsV;rw [if_neg];simpa using k5
  have k3':(K.set id .dead)[id2]? =some (.cells (flat (ps.map encPl))):=z0A k3 (by omega)
  refine .inl ⟨_,.tuple [encR ⟨kd,true,prs,true,ps,below⟩,.bool true],(K.set id .dead).set id2 .dead,rfl,.step id _ h4 h3 s1 (.step id2 _ (by omega) k3' (.base _ _ ?_) (.done _ _)),fun j b h1 h2=>z0A (hd j b h1 h2) (by have:=hlj j b h2;omega),rfl,q,z0A hgd (by omega)⟩
  unfold encR
  simp only
  rw [he,hl6]
  refine .tuple _ _ rfl fun i=>?_
  match i with
  | 0 =>
   refine .agg _ _ rfl fun i=>?_
   match i with
   | 0=>exact .refl _
   | 1=>exact .refl _
   | 2=>exact .sl 0 _ 6 _ rfl k0 (by rw [List.drop_zero,←flat_len k0,List.take_length]) (by rw [flat_len k0];omega)
   | 3=>exact .refl _
   | i+4=>exact .refl _
  | 1=>exact .refl _
  | i+2=>exact .refl _
end Go.Ab
