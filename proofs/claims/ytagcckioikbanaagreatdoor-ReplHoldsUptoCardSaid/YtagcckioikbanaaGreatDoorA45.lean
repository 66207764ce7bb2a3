/- Part 45 of the proof. -/
import Derived.Test.YtagcckioikbanaaGreatDoorA43
import Derived.Test.YtagcckioikbanaaGreatDoorA44
set_option linter.unusedVariables false
set_option linter.unusedSimpArgs false
namespace Go.Ab
open Go
set_option maxRecDepth 100000
set_option maxHeartbeats 8000000
theorem z7p {l:List Nat}:∀ x∈l.map z0k,x.cells.length=1:=fun x hx=>by
 obtain ⟨m,_,rfl⟩:=lBB.1 hx
 rfl
theorem z8k (l:List Nat):(z0d (l.map z0k)).length=l.length*1:=by rw [z0t z7p,lAD]
theorem zJs {l:List Nat} {i:Nat} {m:Nat} (h:l[i]? =some m):z2w none (z0d (l.map z0k)) (0+i*1)=some (z0k m):=by
 have e:z0d (l.map z0k)=l.map z0k:=z1J fun x hx=>by
  obtain ⟨q,_,rfl⟩:=lBB.1 hx;rfl
 rw [e,lBH,lCB]
 show (l.map z0k)[i]? =_
 rw [lAK,h];rfl
section
variable {X:z0B} {id:Nat}
theorem y0u {l:List Nat} {caps:List AV} {p:Nat→Bool} {g:FuncId} (hg:X[id]? =some (.cells (z0d (l.map z0k)))) (hn:l.length≤1000000) (hb:hasBody PP g=true) (hcl:∀ v∈l,z0C PP g (z0k v::caps) X (z1D X (.bool (p v)))) :
  z0C PP 163 [.sl id 0 l.length 1,.clo (.func g) [] caps] X (z1D X (.int .i64 (zNS (l.findIdx? p)))):=by
 refine zSt.c2 z0P mixed rfl ?_
 rw [lAJ]
 refine z0A ?_
 refine z0H l.length (fun i al H'=>al=[(0,.sl id 0 l.length 1),(1,.clo (.func g) [] caps),(7,.int .i64 l.length),(8,.int .i64 i)]∧H'=X∧∀ k c,k<i→l[k]? =some c→p c=false) ⟨rfl,rfl,by omega⟩ ?_
 rintro i _ V hi ⟨rfl,rfl,v1⟩
 have e1:decide ((i:Int)<(l.length:Int))=decide (i<l.length):=by simp only [lAP];omega
 refine z0A ?_
 rw [e1]
 cases hc:decide (i<l.length)
 ·simp only [lAC] at hc
  have:l.findIdx? p=none:=by
   rw [lB5]
   intro x hx
   obtain ⟨k,hk,rfl⟩:=lC0 hx
   exact v1 k _ (by omega) (lAG hk)
  rw [this]
  refine z0A ?_
  exact z0W rfl ⟨rfl,rfl⟩
 simp only [lAE] at hc
 obtain ⟨m,hm⟩:=z0M (l:=l) (i:=i) hc
 have k:=hcl m (lAF hm)
 refine z0A ?_
 refine z1s (v:=z0k m) rfl hg (zJs hm) ?_
 refine z3V rfl hb k ?_
 cases hp:p m
 ·refine z0A ?_
  refine ⟨by omega,rfl,rfl,fun k c hk hc2=>?_⟩
  rcases lCL.1 hk with h | h
  ·exact v1 k c h hc2
  ·subst h;rw [hm] at hc2;injection hc2 with hc2;rw [←hc2];exact hp
 ·have:l.findIdx? p=some i:=by
   rw [lBU]
   refine ⟨by omega,?_,?_⟩
   ·rw [lAG (by omega)] at hm;injection hm with hm;rw [hm];exact hp
   ·intro j hj;rw [v1 j _ hj (lAG (by omega))];simp
  rw [this]
  refine z0A ?_
  exact z0W rfl ⟨rfl,rfl⟩
theorem a207 {l:List Nat} {caps:List AV} {p:Nat→Bool} {g:FuncId} (hg:X[id]? =some (.cells (z0d (l.map z0k)))) (hn:l.length≤100000) (hb:hasBody PP g=true)
  (hcl:∀ m∈l,∀ H':z0B,(∀ (j:Nat) (b:Blk),j≠id→X[j]? =some b→H'[j]? =some b)→z0C PP g (z0k m::caps) H' (z1D H' (.bool (p m)))) :
  z0C PP 164 [.sl id 0 l.length 1,.clo (.func g) [] caps] X (fun r H'=>∃ cs,r=.ret (.sl id 0 (l.filter fun m=>!p m).length 1)∧H'[id]? =some (.cells cs)∧cs.take ((l.filter fun m=>!p m).length*1)=z0d ((l.filter fun m=>!p m).map z0k)∧(l.filter fun m=>!p m).length*1≤cs.length ∧
   (∀ (j:Nat) (b:Blk),j≠id→X[j]? =some b→H'[j]? =some b)∧X.length≤H'.length):=by
 refine zVH.c2 z0P mixed rfl ?_
 rw [lAJ]
 have hid:=(lAA.1 hg).1
 refine z0A ?_
 refine z0J rfl (y0u hg (by omega) hb fun m hm=>hcl m hm X fun _ _ _ h=>h) ?_
 cases hf:l.findIdx? p with
 | none =>
  have hall:l.filter (fun m=>!p m)=l:=by
   rw [lB5] at hf
   rw [lEA]
   intro a ha
   simp [hf a ha]
  rw [hall]
  have e1:((-1:Int) == -1)=true:=rfl
  unfold zNS
  refine z0A ?_
  exact z0W rfl ⟨_,rfl,hg,by rw [←z8k,lAW],by rw [z8k];omega,fun _ _ _ h=>h,lAL _⟩
 | some i0 =>
  rw [lBU] at hf
  obtain ⟨hi0,hp0,hlt⟩:=hf
  have e1:((i0:Int) == -1)=false:=by simp
  unfold zNS
  refine z0A ?_
  refine z0H (l.length-(i0+1)) (fun q al W=>∃ mid:List Nat,al=[(0,.sl id 0 l.length 1),(1,.clo (.func g) [] caps),(5,.int .i64 ((l.take (i0+1+q)).filter fun m=>!p m).length),(6,.int .i64 (i0+1+q:Nat))]∧((l.take (i0+1+q)).filter fun m=>!p m).length+mid.length=i0+1+q∧mid≠[] ∧
   W[id]? =some (.cells (z0d ((((l.take (i0+1+q)).filter fun m=>!p m)++mid++l.drop (i0+1+q)).map z0k)))∧(∀ (j:Nat) (b:Blk),j≠id→X[j]? =some b→W[j]? =some b)∧X.length≤W.length) ?_ ?_
  ·have hk0:(l.take (i0+1)).filter (fun m=>!p m)=l.take i0:=by
    rw [lA1,lAG hi0,lCV]
    have h1:(l.take i0).filter (fun m=>!p m)=l.take i0:=by
     rw [lEA]
     intro a ha
     obtain ⟨k,hk,rfl⟩:=lBW.1 ha
     rw [lBR] at hk
     rw [List.getElem_take]
     have:=hlt k (by omega)
     simpa using this
    rw [h1]
    simp [hp0]
   refine ⟨[l[i0]],?_,?_,by simp,?_,fun _ _ _ h=>h,lAL _⟩
   ·rw [lCJ,hk0,lBR,lDS (by omega)];rfl
   ·rw [lCJ,hk0,lBR,lDS (by omega)];rfl
   ·rw [lCJ,hk0,lA3,List.singleton_append,←lBQ hi0,lC1]
    exact hg
  rintro q _ W hq ⟨mid,rfl,hml,hmne,wg,wo,wl⟩
  have e2:decide (((i0+1+q:Nat):Int)<(l.length:Int))=decide (i0+1+q<l.length):=by simp only [lAP];omega
  generalize hj:i0+1+q=j at *
  have hwid:=(lAA.1 wg).1
  refine z0A ?_
  rw [e2]
  cases hc:decide (j<l.length)
  rotate_left
  ·simp only [lAE] at hc
   obtain ⟨m,hm⟩:=z0M (l:=l) (i:=j) hc
   have hdr:l.drop j=m::l.drop (j+1):=by
    rw [lBQ hc]
    rw [lAG hc] at hm
    injection hm with hm
    rw [hm]
   have hsn:=z8q (q:=fun m=>!p m) hm
   have hgm:(((l.take j).filter fun m=>!p m)++mid++l.drop j)[j]? =some m:=by
    rw [lAM (by rw [lAH];omega),lAH,hml,lBG,hdr];rfl
   have hkl:((l.take j).filter fun m=>!p m).length≤l.length:=by omega
   generalize hK:(l.take j).filter (fun m=>!p m)=kept at *
   refine z0A ?_
   refine z1s (v:=z0k m) rfl wg (zJs hgm) ?_
   have yg:=wg
   have yo:=wo
   have k:=hcl m (lAF hm) W yo
   refine z0A ?_
   refine z3V rfl hb k ?_
   cases hp:p m
   ·rw [hp] at hsn
    have hne:(!false)=true:=rfl
    rw [if_pos hne] at hsn
    obtain ⟨a,mid',rfl⟩:∃ a mid',mid=a::mid':=by
     cases mid with
     | nil=>exact absurd rfl hmne
     | cons a b=>exact ⟨a,b,rfl⟩
    have hset:(kept++(a::mid')++l.drop j).set kept.length m=(kept++[m])++(mid'++[m])++l.drop (j+1):=by
     rw [lA3,lA6 _ _ (lAL _),lBG,hdr]
     simp
    have hkj:kept.length<(kept++(a::mid')++l.drop j).length:=by simp
    have hsa:=zCn (sz:=1) (i:=kept.length) (x:=z0k m) (z7p (l:=kept++(a::mid')++l.drop j)) (by rw [lAD];exact hkj) rfl
    have hms:((kept++(a::mid')++l.drop j).map z0k).set kept.length (z0k m)=((kept++[m])++(mid'++[m])++l.drop (j+1)).map z0k:=by rw [←hset,List.map_set]
    rw [hms] at hsa
    have hwl2:=z8k (kept++(a::mid')++l.drop j)
    have hsa2:z3B (z0d ((kept++(a::mid')++l.drop j).map z0k)) (0+kept.length*1) (z0k m).cells=z0d (((kept++[m])++(mid'++[m])++l.drop (j+1)).map z0k):=by rw [lBH];exact hsa
    refine z0A ?_
    refine z0h (z0k m) rfl rfl yg ?_ hsa2 rfl ?_
    ·simp only [AV.shaped,AV.cells,z0k,lBC,lC5,lBH]
     have:decide (kept.length*1+1≤(z0d ((kept++(a::mid')++l.drop j).map z0k)).length)=true:=by rw [lAE,hwl2];omega
     first | (rw [this];rfl) | simpa using this
    refine z0A ?_
    refine ⟨by omega,mid'++[m],?_,?_,by simp,?_,fun j b h1 h2=>z0K (yo j b h1 h2) (fun e=>h1 e.symm),by simp;omega⟩
    ·rw [show i0+1+(q+1)=j+1 by omega,hsn,lAH];rfl
    ·rw [show i0+1+(q+1)=j+1 by omega,hsn]
     simp only [lAH,lBC,lC5] at hml ⊢
     omega
    ·rw [show i0+1+(q+1)=j+1 by omega,hsn]
     exact lAT (by omega)
   ·rw [hp] at hsn
    rw [if_neg (by simp),lAJ] at hsn
    refine z0A ?_
    refine ⟨by omega,mid++[m],?_,?_,by simp,?_,yo,by omega⟩
    ·rw [show i0+1+(q+1)=j+1 by omega,hsn];rfl
    ·rw [show i0+1+(q+1)=j+1 by omega,hsn,lAH,lBZ];omega
    ·rw [show i0+1+(q+1)=j+1 by omega,hsn,yg,hdr]
     simp
  ·simp only [lAC] at hc
   have htk:l.take j=l:=lAQ (by omega)
   have hdr:l.drop j=[]:=lDC (by omega)
   rw [htk] at wg hml ⊢
   rw [hdr,lAJ] at wg
   generalize hK:l.filter (fun m=>!p m)=kept at *
   have hjl:j=l.length:=by omega
   have hmp:0<mid.length:=lDX.2 hmne
   have hwl2:=z8k (kept++mid)
   rw [lAH] at hwl2
   have hb1:z2R l.length true false [.int .i64 kept.length]=some (kept.length,l.length):=zBu (by omega)
   have hb2:z2R l.length false true [.int .i64 kept.length]=some (0,kept.length):=z8u (by omega)
   have hne:(kept.length==l.length)=false:=by rw [beq_eq_false_iff_ne];omega
   have hcl2:(z1C (l.length-kept.length) [AV.int .i64 0]).length=(l.length-kept.length)*1:=by
    generalize l.length-kept.length=z
    induction z with
    | zero=>rfl
    | succ z ih =>
     have:z1C (z+1) [AV.int .i64 0]=AV.int .i64 0::z1C z [AV.int .i64 0]:=rfl
     rw [this,lBC,ih];omega
   have hspl:=(z4E (i:=kept.length) (z7p (l:=kept++mid)) (by simp)).2
   have htk2:((kept++mid).map z0k).take kept.length=kept.map z0k:=by rw [lBE,lCG (by simp)];rw [lAQ (by simp)]
   rw [htk2] at hspl
   refine z0A ?_
   refine z2K (v:=.sl id (0+kept.length*1) (l.length-kept.length) 1) ?_ ?_
   ·show z3g 1 true false (.sl id 0 l.length 1) [.int .i64 kept.length]=_
    simp only [z3g,if_true,hb1,hne,lD6,lAX,if_false]
   refine zKf (v:=.top) (H':=W.set id (.cells (z3B (z0d ((kept++mid).map z0k)) (0+kept.length*1) (z1C (l.length-kept.length) [AV.int .i64 0])))) ?_ ?_
   ·show zGq (.clearSl 1 [.int .i64 0]) [.sl id (0+kept.length*1) (l.length-kept.length) 1] W W.length=_
    simp only [zGq,if_true,wg]
    rw [if_pos]
    rw [lAS,lAE]
    exact ⟨by rw [hwl2];omega,rfl⟩
   refine z0A ?_
   refine z2K (v:=.sl id 0 kept.length 1) ?_ ?_
   ·show z3g 1 false true (.sl id 0 l.length 1) [.int .i64 kept.length]=_
    simp only [z3g,if_true,hb2,lD0,lAX,if_false]
    rfl
   refine z0A ?_
   refine z0W rfl ⟨_,rfl,lAT hwid,?_,?_,fun j b h1 h2=>z0K (wo j b h1 h2) (fun e=>h1 e.symm),by simpa using wl⟩
   ·unfold z3B
    rw [lBH,lA3,lCG (by rw [lBR,hwl2];omega),List.take_take,Nat.min_self]
    exact hspl
   ·unfold z3B
    rw [lBH,lAH,lAH,lBR,hwl2]
    omega
end
section
variable {H:z0B}
theorem y0v {xs:List AV} (h1:∀ x∈xs,x.cells=[x]) (hsc:xs.all AV.scalar=true) (hn:xs.length≤1000000) (hne:xs≠[]):z0C PP 154 [.list 1 xs] H (fun r H'=>∃ id,r=.ret (.sl id 0 xs.length 1)∧H'[id]? =some (.cells (z0d xs))∧H.length≤id∧AskMs [] H H'):=by
 refine zVP.c1 z0P mixed rfl ?_
 rw [lAJ]
 have hfl:z0d xs=xs:=z1J h1
 have hlp:0<xs.length:=lDX.2 hne
 refine z0A ?_
 refine z2K (v:=.bool false) rfl ?_
 refine z0A ?_
 refine z0S (out:=[]) rfl ?_
 have hys:z1m 1 (H++[Blk.cells []]) (.list 1 xs)=some (xs.length,xs):=by
  show some (xs.length,z0d xs)=_
  rw [hfl]
 refine z0A ?_
 refine z4G (off:=0) (k:=0) (cs:=[]) rfl z0E (by simp) hys hsc (by omega) ?_
 refine z0A ?_
 refine z0W rfl ⟨(H++[Blk.cells []]:z0B).length,by rw [lBH];rfl,by rw [hfl,lAM (by simp)];simp,by simp,?_⟩
 refine ⟨fun p hp=>(by cases hp),fun j b _ hb=>?_,by simp⟩
 have hj:=(lAA.1 hb).1
 rw [lAN (by simp;omega),lCS (by omega)]
 exact z0G hb
theorem zYf {xs:List AV} (h2:∀ x∈xs,x.cells.length=2) (hsc:(z0d xs).all AV.scalar=true) (hn:xs.length≤1000000) (hne:xs≠[]):z0C PP 99 [.list 2 xs] H (fun r H'=>∃ id,r=.ret (.sl id 0 xs.length 2)∧H'[id]? =some (.cells (z0d xs))∧H.length≤id∧AskMs [] H H'):=by
 refine zZR.c1 z0P mixed rfl ?_
 rw [lAJ]
 have hlp:0<xs.length:=lDX.2 hne
 refine z0A ?_
 refine z2K (v:=.bool false) rfl ?_
 refine z0A ?_
 refine z0S (out:=[]) rfl ?_
 have hys:z1m 2 (H++[Blk.cells []]) (.list 2 xs)=some (xs.length,z0d xs):=rfl
 refine z0A ?_
 refine z4G (off:=0) (k:=0) (cs:=[]) rfl z0E (by simp) hys hsc (by omega) ?_
 refine z0A ?_
 refine z0W rfl ⟨(H++[Blk.cells []]:z0B).length,by rw [lBH];rfl,by rw [lAM (by simp)];simp,by simp,?_⟩
 refine ⟨fun p hp=>(by cases hp),fun j b _ hb=>?_,by simp⟩
 have hj:=(lAA.1 hb).1
 rw [lAN (by simp;omega),lCS (by omega)]
 exact z0G hb
end
def z5a (ps:List (Bt × Bt)) (n:Nat):Nat:=(ps.getD n ([],[])).1.length
section
variable {pv av bv:AV} {ps:List (Bt × Bt)} {H:z0B}
theorem zBL {n:Nat} (h:n<ps.length):∃ f t,ps[n]? =some (f,t)∧(ps.map z4k)[n]? =some (.agg [.str f,.str t])∧z5a ps n=f.length∧(f,t)∈ps:=by
 obtain ⟨⟨f,t⟩,hp⟩:=z0M (l:=ps) (i:=n) h
 exact ⟨f,t,hp,by rw [lAK,hp];rfl,by unfold z5a;rw [lAB,hp];rfl,lAF hp⟩
theorem a208 {n b3 b7:Nat} {best:Int} (hs:Sl 2 pv (ps.map z4k)) (hn:n<ps.length) (hpl:∀ p∈ps,p.1.length≤1000000) (h3:H[b3]? =some (.cells [.cptr [pv,av,bv]])) (h7:H[b7]? =some (.cells [.int .i64 best])):z0C PP 165 [z0k n,.ptr b3 0,.ptr b7 0] H (z1D H (.bool (!((z5a ps n:Int)==best)))):=by
 obtain ⟨f,t,hp,hu,hfl,hm⟩:=zBL hn
 have hfl2:=hpl _ hm
 refine zSs.c3 z0P mixed rfl ?_
 rw [lAJ,hfl]
 refine z0A ?_
 refine z2K (v:=.cptr [.str f,.str t]) rfl ?_
 refine z0A ?_
 exact z0W rfl ⟨rfl,rfl⟩
theorem a137 {kind:Int} {l:List Nat} (hs:Sl 2 pv (ps.map z4k)) (hn:∀ n∈l,n<ps.length) (hpl:∀ p∈ps,p.1.length≤1000000) (hll:l.length≤100000) (hne:l≠[]) :
  z0C PP 97 [.cptr [pv,av,bv],.int .i64 kind,.list 1 (l.map z0k)] H (z1D H (.list 1 ((z2c kind (z5a ps) l).map z0k))):=by
 refine z0C.plainE (z0N.list _ fun x hx=>by obtain ⟨q,_,rfl⟩:=lBB.1 hx;exact z0N.int _ _) ?_
 refine z0C.sealed (n:=H.length) ?_
 refine is97.c3 z0P mixed rfl ?_
 rw [lAJ]
 have hlv:Sl 1 (.list 1 (l.map z0k)) (l.map z0k):=.list _
 have hlm:(l.map z0k).length=l.length:=lAD _
 have k171:=fun H'=>y0v (H:=H') (xs:=l.map z0k) (fun x hx=>by obtain ⟨q,_,rfl⟩:=lBB.1 hx;rfl) (z2t _) (by rw [hlm];omega) (by simpa using hne)
 generalize hlist:AV.list 1 (l.map z0k)=lv at *
 refine z1E (z0V ?_)
 refine z0y (.cptr [pv,av,bv]) rfl rfl ?_
 have x3:(H++[Blk.cells [.cptr [pv,av,bv]]])[H.length]? =some (.cells [.cptr [pv,av,bv]]):=z0E
 have xk:=zCE (H:=H).app [Blk.cells [.cptr [pv,av,bv]]]
 have xl:(H++[Blk.cells [.cptr [pv,av,bv]]]:z0B).length=H.length+1:=by simp
 show VV _ _ _ (H++[Blk.cells [.cptr [pv,av,bv]]]) _ _
 generalize (H++[Blk.cells [.cptr [pv,av,bv]]]:z0B)=X at *
 refine z0A ?_
 refine z0h (.int .i64 (-1)) (H':=X++[.cells [.int .i64 (-1)]]) rfl rfl z0E rfl rfl (by rw [lA6 _ _ (lAL _),lBG];rfl) ?_
 have y7:(X++[Blk.cells [.int .i64 (-1)]])[H.length+1]? =some (.cells [.int .i64 (-1)]):=by rw [←xl];exact z0E
 have y3:=z0G (G:=[Blk.cells [.int .i64 (-1)]]) x3
 have yk:=xk.app [Blk.cells [.int .i64 (-1)]]
 have yl:(X++[Blk.cells [.int .i64 (-1)]]:z0B).length=H.length+2:=by simp [xl]
 rw [xl]
 generalize (X++[Blk.cells [.int .i64 (-1)]]:z0B)=Y at *
 clear x3 xk xl X
 refine z0A ?_
 refine z0H l.length (fun i al W=>al=[(1,.int .i64 kind),(2,lv),(3,.ptr H.length 0),(7,.ptr (H.length+1) 0),(11,lv),(12,.int .i64 l.length),(13,.int .i64 i)]∧AskMs [] H W∧W[H.length]? =some (.cells [.cptr [pv,av,bv]])∧W[H.length+1]? =some (.cells [.int .i64 (z7u kind (z5a ps) (l.take i))])∧H.length+2≤W.length) ⟨by rw [hlm];rfl,yk,y3,y7,by omega⟩ ?_
 clear y3 y7 yk yl Y
 rintro i _ W hi ⟨rfl,wk,w3,w7,wl⟩
 have e1:decide ((i:Int)<(l.length:Int))=decide (i<l.length):=by simp only [lAP];omega
 refine z0A ?_
 rw [e1]
 cases hc:decide (i<l.length)
 ·simp only [lAC] at hc
  have htk:l.take i=l:=lAQ (by omega)
  rw [htk] at w7
  generalize hbest:z7u kind (z5a ps) l=best at *
  refine z0A ?_
  refine z0L rfl (k171 W) ?_ ?_
  rotate_left
  ·rintro u V' ⟨id,hu,_⟩
   cases hu
  rintro u V ⟨id,hu,vg,vid,vk⟩
  cases hu
  have vo:∀ (j:Nat) (b:Blk),W[j]? =some b→V[j]? =some b:=fun j b h=>vk.old j b (fun p hp=>by cases hp) h
  have v3:=vo _ _ w3
  have v7:=vo _ _ w7
  have k207:=a207 (X:=V) (id:=id) (l:=l) (caps:=[.ptr H.length 0,.ptr (H.length+1) 0]) (g:=165) (p:=fun n=>!((z5a ps n:Int)==best)) vg hll zSs.hasBody (fun m hm H' ho=>a208 hs (hn m hm) hpl (ho _ _ (by omega) v3) (ho _ _ (by omega) v7))
  rw [hlm]
  refine z0A ?_
  refine z6P (vs:=[.ptr H.length 0,.ptr (H.length+1) 0]) rfl ?_
  refine z0L rfl k207 ?_ ?_
  rotate_left
  ·rintro u V' ⟨cs,hu,_⟩
   cases hu
  rintro u Z ⟨cs,hu,zg,ztk,zle,zo,zl⟩
  cases hu
  have hfe:(l.filter fun m=>!(!((z5a ps m:Int)==best)))=z2c kind (z5a ps) l:=by
   unfold z2c
   rw [hbest]
   simp only [Bool.not_not]
  rw [hfe] at ztk zle ⊢
  generalize z2c kind (z5a ps) l=res at *
  have hr1:∀ x∈res.map z0k,x.cells=[x]:=fun x hx=>by obtain ⟨q,_,rfl⟩:=lBB.1 hx;rfl
  refine z0A ?_
  refine z0W rfl (.inl ⟨_,_,Z.set id .dead,rfl,.step id cs (by omega) zg (.base _ _ (.sl 0 _ 1 (res.map z0k) (by simp) (fun x hx=>by rw [hr1 x hx];rfl) (by rw [lBP,ztk]) (by omega))) (.done _ _),rfl,?_⟩)
  refine ⟨fun p hp=>(by cases hp),fun j b _ hb=>?_,by have:=wk.len;have:=vk.len;simp;omega⟩
  have hj:=(lAA.1 hb).1
  exact z0K (zo j b (by have:=wk.len;omega) (vo j b (wk.old j b (fun p hp=>by cases hp) hb))) (by have:=wk.len;omega)
 simp only [lAE] at hc
 obtain ⟨n,hni⟩:=z0M (l:=l) (i:=i) hc
 have hnv:(l.map z0k)[i]? =some (z0k n):=by rw [lAK,hni];rfl
 obtain ⟨f,t,hp,hu,hfl,hm⟩:=zBL (hn n (lAF hni))
 have hpl2:=hpl _ hm
 have hsn:=zDR kind (z5a ps) hni
 generalize z7u kind (z5a ps) (l.take i)=b at *
 generalize z7u kind (z5a ps) (l.take (i+1))=b' at *
 unfold zAD at hsn
 rw [hfl] at hsn
 refine z0A ?_
 refine z2K (v:=.cptr [.str f,.str t]) rfl ?_
 refine z0A ?_
 cases h1:decide (b<0)
 rotate_left
 ·have hb:b'=(f.length:Int):=by rw [hsn];simp [h1]
  rw [hb]
  refine z0A ?_
  refine z0h (.int .i64 (f.length:Nat)) rfl rfl w7 rfl rfl rfl ?_
  refine z0A ?_
  exact ⟨hc,rfl,wk.own (by omega) (fun p hp=>by cases hp),z0K w3 (by omega),lAT (by omega),by simpa using wl⟩
 cases h2:(kind==2)
 rotate_left
 ·obtain rfl:kind=2:=by simpa using h2
  refine z0A ?_
  cases h3:decide ((f.length:Int)>b)
  ·have hb:b'=b:=by rw [hsn];simp [h1,h3]
   rw [hb]
   refine z0A ?_
   exact ⟨hc,rfl,wk,w3,w7,wl⟩
  ·have hb:b'=(f.length:Int):=by rw [hsn];simp [h1,h3]
   rw [hb]
   refine z0A ?_
   refine z0h (.int .i64 (f.length:Nat)) rfl rfl w7 rfl rfl rfl ?_
   refine z0A ?_
   exact ⟨hc,rfl,wk.own (by omega) (fun p hp=>by cases hp),z0K w3 (by omega),lAT (by omega),by simpa using wl⟩
 refine z0A ?_
 cases h4:(kind==3)
 ·have hb:b'=b:=by rw [hsn];simp [h1,h2,h4]
  rw [hb]
  refine z0A ?_
  exact ⟨hc,rfl,wk,w3,w7,wl⟩
 ·obtain rfl:kind=3:=by simpa using h4
  refine z0A ?_
  cases h5:decide ((f.length:Int)<b)
  ·have hb:b'=b:=by rw [hsn];simp [h1,h5]
   rw [hb]
   refine z0A ?_
   exact ⟨hc,rfl,wk,w3,w7,wl⟩
  ·have hb:b'=(f.length:Int):=by rw [hsn];simp [h1,h5]
   rw [hb]
   refine z0A ?_
   refine z0h (.int .i64 (f.length:Nat)) rfl rfl w7 rfl rfl rfl ?_
   refine z0A ?_
   exact ⟨hc,rfl,wk.own (by omega) (fun p hp=>by cases hp),z0K w3 (by omega),lAT (by omega),by simpa using wl⟩
end
set_option maxHeartbeats 16000000
def z1K (q:Nat × Nat):Way:=((q.1:Int),q.2)
def z5n (kind:Int) (len:Nat→Nat) (l:List (Nat × Nat)) (at_:Nat):List Way :=
 if l.isEmpty then [(-1,at_+1)] else (l.filter fun q=>(z2c kind len (l.map Prod.fst)).any fun n=>(q.1:Int)==(n:Int)).map z1K
theorem z9T (l:List Way):z0N (.list 2 (l.map z1z)):=z0N.list _ fun x hx=>by
 obtain ⟨q,_,rfl⟩:=lBB.1 hx
 exact z0N.agg fun y hy=>by
  simp only [lAV,lA7,or_false] at hy
  rcases hy with rfl | rfl<;>exact z0N.int _ _
theorem zLs (l:List Way):(z0d (l.map z1z)).all AV.scalar=true:=by
 induction l with
 | nil=>rfl
 | cons m l ih =>
  rw [lBA]
  show ([AV.int .i64 m.1,.int .i64 m.2]++z0d (l.map z1z)).all AV.scalar=true
  rw [lEE,ih];rfl
theorem zGx {P:Program} {H:z0B} {al:AL} {K:KL} {Qp:AL→AV→z0B→Prop} {os:List IOper} {x y:Arg} {z:AV} {sz:Nat} {xs:List AV} (hx:evL al x=.ptr H.length 0) (hy:evL al y=.list sz xs) (h:VV P os al (H++[.cells [.list sz xs]]) K Qp) :
  VV P (⟨none,.i (.m (.store 1)),[x,y],none,none⟩::os) al (H++[.cells [z]]) K Qp :=
 z0h (.list sz xs) hx hy z0E rfl rfl (by rw [lA6 _ _ (lAL _),lBG];rfl) h
section
variable {pv av bv:AV} {ps:List (Bt × Bt)} {H:z0B}
theorem a77 {kind:Int} {lv:AV} {l:List (Nat × Nat)} {at_ fr_:Nat} (hs:Sl 2 pv (ps.map z4k)) (hlv:Sl 2 lv ((l.map z1K).map z1z)) (hn:∀ q∈l,q.1<ps.length) (hpl:∀ p∈ps,p.1.length≤1000000) (hll:l.length≤100000) (hat:at_≤1000000) :
  z0C PP 54 [.cptr [pv,av,bv],.int .i64 kind,lv,.agg [.int .i64 at_,.int .i64 fr_]] H (z1D H (.list 2 ((z5n kind (z5a ps) l at_).map z1z))):=by
 refine z0C.plainE (z9T _) ?_
 refine z0C.sealed (n:=H.length) ?_
 refine is54.c4 z0P mixed rfl ?_
 rw [lAJ]
 have hlm:((l.map z1K).map z1z).length=l.length:=by rw [lAD,lAD]
 refine z1E (z0V ?_)
 refine z0y (.agg [.int .i64 at_,.int .i64 fr_]) rfl rfl ?_
 have x7:(H++[Blk.cells [.int .i64 at_,.int .i64 fr_]])[H.length]? =some (.cells [.int .i64 at_,.int .i64 fr_]):=z0E
 have xk:=zCE (H:=H).app [Blk.cells [.int .i64 at_,.int .i64 fr_]]
 have xl:(H++[Blk.cells [.int .i64 at_,.int .i64 fr_]]:z0B).length=H.length+1:=by simp
 show VV _ _ _ (H++[Blk.cells [.int .i64 at_,.int .i64 fr_]]) _ _
 generalize (H++[Blk.cells [.int .i64 at_,.int .i64 fr_]]:z0B)=X at *
 have e0:((((l.map z1K).map z1z).length:Int)==0)=l.isEmpty:=by
  rw [hlm]
  cases l with
  | nil=>rfl
  | cons a b=>simp;omega
 unfold z5n
 refine z0A ?_
 rw [e0]
 cases he:l.isEmpty
 rotate_left
 ·rw [if_pos rfl]
  refine z0A ?_
  refine z0s (out:=[.int .i64 (-1),.int .i64 (at_+1:Nat)]) rfl rfl ?_
  refine z0S (out:=[.int .i64 (-1),.int .i64 (at_+1:Nat)]) rfl ?_
  refine z0A ?_
  refine z0W rfl (.inl ⟨_,_,(X++[Blk.cells [.int .i64 (-1),.int .i64 (at_+1:Nat)]]).set X.length .dead,rfl,.step X.length _ (by omega) z0E (.base _ _ (.sl 0 1 2 [z1z (-1,at_+1)] rfl (fun x hx=>by simp only [lAR] at hx;subst hx;rfl) rfl (by simp))) (.done _ _),rfl,?_⟩)
  exact (xk.app _).own (by omega) (fun p hp=>by cases hp)
 rw [if_neg (by simp)]
 have hle:l≠[]:=by intro e;rw [e] at he;cases he
 obtain rfl:lv=.list 2 ((l.map z1K).map z1z):=by
  generalize hxs:(l.map z1K).map z1z=xs at hlv
  cases hlv with
  | nil=>simp at hxs;exact absurd hxs hle
  | list=>rfl
 have k139:=fun H'=>zYf (H:=H') (xs:=(l.map z1K).map z1z) z2y (zLs _) (by rw [hlm];omega) (by simpa using hle)
 generalize hlist:AV.list 2 ((l.map z1K).map z1z)=lw at *
 refine z0A ?_
 refine z0H l.length (fun i al W=>∃ kw,al=[(0,.cptr [pv,av,bv]),(1,.int .i64 kind),(2,lw),(9,kw),(21,lw),(22,.int .i64 l.length),(23,.int .i64 i)]∧AskMs [] H W∧z1R (H.length+1) W kw (((l.take i).map Prod.fst).map z0k)∧H.length+1≤W.length) ⟨_,by rw [hlm];rfl,xk,.inl ⟨rfl,rfl⟩,by omega⟩ ?_
 clear x7 xk xl X
 rintro i _ W hi ⟨kw,rfl,wk,wo,wl⟩
 have e1:decide ((i:Int)<(l.length:Int))=decide (i<l.length):=by simp only [lAP];omega
 refine z0A ?_
 rw [e1]
 cases hc:decide (i<l.length)
 rotate_left
 ·simp only [lAE] at hc
  obtain ⟨q,hq⟩:=z0M (l:=l) (i:=i) hc
  have hu:((l.map z1K).map z1z)[i]? =some (.agg [.int .i64 q.1,.int .i64 q.2]):=by rw [lAK,lAK,hq];rfl
  have hsn:((l.take (i+1)).map Prod.fst).map z0k=((l.take i).map Prod.fst).map z0k++[z0k q.1]:=by rw [lA1,hq];simp
  refine z0A ?_
  refine z0z (ws:=[.int .i64 q.1,.int .i64 q.2]) rfl rfl rfl rfl rfl rfl ?_
  have y11:(W++[Blk.cells [.int .i64 q.1,.int .i64 q.2]])[W.length]? =some (.cells [.int .i64 q.1,.int .i64 q.2]):=z0E
  have yk:=wk.app [Blk.cells [.int .i64 q.1,.int .i64 q.2]]
  have yo:z1R (H.length+1) (W++[Blk.cells [.int .i64 q.1,.int .i64 q.2]]) kw _:=wo.mono fun j b _ h=>z0G h
  have yl:(W++[Blk.cells [.int .i64 q.1,.int .i64 q.2]]:z0B).length=W.length+1:=by simp
  generalize (W++[Blk.cells [.int .i64 q.1,.int .i64 q.2]]:z0B)=Y at *
  generalize W.length=b11 at *
  refine z0A ?_
  refine z0S (out:=[z0k q.1]) rfl ?_
  refine z8N (kv:=kw) rfl yo rfl rfl (z2t _) (by rw [lAD,lAD,lBR];omega) (by omega) ?_
  intro kv' Z hko hpres hlen hfr
  refine z0A ?_
  exact ⟨hc,kv',rfl,yk.grow (yo.lower (by omega)) hpres hlen,by rw [hsn];exact hko,by omega⟩
 simp only [lAC] at hc
 have htk:l.take i=l:=lAQ (by omega)
 rw [htk] at wo
 have hmem:∀ n∈l.map Prod.fst,n<ps.length:=fun n hn'=>by
  obtain ⟨q,hq,rfl⟩:=lBB.1 hn'
  exact hn q hq
 have k137:=fun H'=>a137 (av:=av) (bv:=bv) (H:=H') (kind:=kind) (l:=l.map Prod.fst) hs hmem hpl (by rw [lAD];omega) (by simpa using hle)
 obtain ⟨h,_⟩ | ⟨kb,rfl,gk,hkb,_⟩:=wo
 ·simp at h;exact absurd h hle
 have hsl:(((l.map Prod.fst).map z0k)).length=l.length:=by rw [lAD,lAD]
 have hn1:∀ x∈(l.map Prod.fst).map z0k,x.cells=[x]:=fun x hx=>by obtain ⟨q,_,rfl⟩:=lBB.1 hx;rfl
 refine z0A ?_
 refine z0L (R:=z1D (W.set kb .dead) (.list 1 ((z2c kind (z5a ps) (l.map Prod.fst)).map z0k))) rfl (z0C.sealArgs (id:=kb) (args':=[.cptr [pv,av,bv],.int .i64 kind,.list 1 ((l.map Prod.fst).map z0k)]) gk rfl (fun i=>?_) (k137 _)) ?_ ?_
 ·match i with
  | 0=>exact .refl _
  | 1=>exact .refl _
  | 2=>exact .sl 0 _ 1 ((l.map Prod.fst).map z0k) rfl (fun x hx=>by rw [hn1 x hx];rfl) (by rw [z1J hn1,lBP,lCB,lAW]) (by omega)
  | i+3=>exact .refl _
 rotate_left
 ·rintro u V' ⟨hu,_⟩
  cases hu
 rintro u V ⟨hu,rfl⟩
 cases hu
 have vk:AskMs [] H (W.set kb .dead):=wk.own (by omega) (fun p hp=>by cases hp)
 have vl:(W.set kb .dead).length=W.length:=by simp
 generalize W.set kb .dead=V at *
 generalize hbest:z2c kind (z5a ps) (l.map Prod.fst)=best at *
 have hbl:best.length≤l.length:=by
  rw [←hbest]
  exact lBK (lCD _ _) (by rw [lAD];exact lAL _)
 refine z0A ?_
 refine zGx rfl rfl ?_
 have z12:(V++[Blk.cells [.list 1 (best.map z0k)]])[V.length]? =some (.cells [.list 1 (best.map z0k)]):=z0E
 have zk:=vk.app [Blk.cells [.list 1 (best.map z0k)]]
 have zl:(V++[Blk.cells [.list 1 (best.map z0k)]]:z0B).length=V.length+1:=by simp
 generalize (V++[Blk.cells [.list 1 (best.map z0k)]]:z0B)=Z at *
 generalize hb12:V.length=b12 at *
 refine z0A ?_
 refine z0L rfl (k139 Z) ?_ ?_
 rotate_left
 ·rintro u V' ⟨id,hu,_⟩
  cases hu
 rintro u T ⟨id,hu,tg,tid,tk⟩
 cases hu
 rw [hlm]
 have t12:T[b12]? =some (.cells [.list 1 (best.map z0k)]):=tk.old _ _ (fun p hp=>by cases hp) z12
 have k138:=a138 (X:=T) (id:=id) (l:=l.map z1K) (caps:=[.ptr b12 0]) (g:=100) (p:=fun m=>!best.any fun n=>m.1==(n:Int)) tg (by rw [lAD];omega) zSx.hasBody (fun m hm H' ho=>a140 (ho _ _ (by omega) t12) (.list _) (by omega))
 rw [lAD] at k138
 refine z0A ?_
 refine z6P (vs:=[.ptr b12 0]) rfl ?_
 refine z0L rfl k138 ?_ ?_
 rotate_left
 ·rintro u V' ⟨cs,hu,_⟩
  cases hu
 rintro u U ⟨cs,hu,ug,utk,ule,uo,ul⟩
 cases hu
 have hfe:(l.map z1K).filter (fun m=>!(!best.any fun n=>m.1==(n:Int)))=(l.filter fun q=>best.any fun n=>(q.1:Int)==(n:Int)).map z1K:=by
  rw [List.filter_map]
  congr 1
  apply List.filter_congr
  intro q _
  simp [z1K,Function.comp]
 rw [hfe] at utk ule ⊢
 generalize ((l.filter fun q=>best.any fun n=>(q.1:Int)==(n:Int)).map z1K)=res at *
 refine z0A ?_
 have hlen1:=vk.len
 have hlen2:=tk.len
 refine z0W rfl (.inl ⟨_,_,U.set id .dead,rfl,.step id cs (by omega) ug (.base _ _ (.sl 0 _ 2 (res.map z1z) (by simp) z2y (by rw [lBP,utk]) (by omega))) (.done _ _),rfl,?_⟩)
 refine ⟨fun p hp=>(by cases hp),fun j b _ hb=>?_,by simp;omega⟩
 have hj:=(lAA.1 hb).1
 exact z0K (uo j b (by omega) (tk.old _ _ (fun p hp=>by cases hp) (zk.old _ _ (fun p hp=>by cases hp) hb))) (by omega)
end
def z4Z (l:List (Nat × Nat)):AV:=z5b (l.map z1K)
theorem zHJ (l:List (Nat × Nat)):Sl 2 (z4Z l) ((l.map z1K).map z1z):=zDh _
theorem z9M (l:List (Nat × Nat)):AV.scalar (z4Z l)=true∧(z4Z l).cells=[z4Z l]:=by
 unfold z4Z z5b
 split<;>exact ⟨rfl,rfl⟩
theorem zNW (l:List (Nat × Nat)):(l.map z1K).map z1z=l.map z4Q:=by rw [lB0];rfl
theorem zFK {n lo:Nat} (hn:n≤lo):∀ (kvs:List AV) (ls:List (List (Nat × Nat))) (dn:List AV) (X:z0B),kvs.length=ls.length→(∀ x∈dn,x.cells=[x]) →
  (∀ (i:Nat) (kv:AV) (l:List (Nat × Nat)),kvs[i]? =some kv→ls[i]? =some l→zRr (fun j=>lo≤j) X kv l)→ls.Pairwise (fun a b=>a≠[]→z0d (a.map z4Q)≠z0d (b.map z4Q)) →
  ∃ K,SealsX n (.list 1 (dn++kvs)) X (.list 1 (dn++ls.map z4Z)) K∧(∀ (j:Nat) (b:Blk),j<lo→X[j]? =some b→K[j]? =some b)∧X.length≤K.length
 | [],[],dn,X,_,_,_,_=>⟨X,.done _ _,fun _ _ _ h=>h,lAL _⟩
 | kv::kvs,l::ls,dn,X,hl,hd,hr,hp=>by
  rw [List.pairwise_cons] at hp
  have hd2:∀ x∈dn++[z4Z l],x.cells=[x]:=fun x hx=>by
   rcases lA5.1 hx with hx | hx
   ·exact hd x hx
   ·simp only [lAR] at hx;subst hx;exact (z9M l).2
  have e2:dn++(l::ls).map z4Z=(dn++[z4Z l])++ls.map z4Z:=by simp
  have hr2:=fun (Y:z0B) (hY:∀ (i:Nat) (kv':AV) (l':List (Nat × Nat)),kvs[i]? =some kv'→ls[i]? =some l'→zRr (fun j=>lo≤j) Y kv' l')=>zFK hn kvs ls (dn++[z4Z l]) Y (by simpa using hl) hd2 hY hp.2
  rcases hr 0 kv l rfl rfl with ⟨rfl,rfl⟩ | ⟨kb,rfl,g,hlo,hne⟩
  ·obtain ⟨K,g1,g2,g3⟩:=hr2 X fun i kv' l' h1 h2=>hr (i+1) kv' l' h1 h2
   refine ⟨K,?_,g2,g3⟩
   rw [e2]
   have:dn++AV.nilslice::kvs=(dn++[z4Z []])++kvs:=by simp [z4Z,z5b]
   rw [this]
   exact g1
  ·have hkb:=(lAA.1 g).1
   obtain ⟨K,g1,g2,g3⟩:=hr2 (X.set kb .dead) fun i kv' l' h1 h2=>by
    rcases hr (i+1) kv' l' h1 h2 with ⟨a,b⟩ | ⟨kc,a,b,c,d⟩
    ·exact .inl ⟨a,b⟩
    ·refine .inr ⟨kc,a,z0K b fun e=>?_,c,d⟩
     subst e
     rw [g] at b
     injection b with b
     injection b with b
     exact hp.1 l' (lAF h2) hne b
   refine ⟨K,?_,fun j b hj h=>g2 j b hj (z0K h (by omega)),by simpa using g3⟩
   rw [e2]
   have hrw:z4Z l=.list 2 (l.map z4Q):=by
    unfold z4Z z5b
    rw [if_neg (by simpa using hne),zNW]
   refine .step kb _ (by omega) g (.list 1 _ ((dn++[z4Z l])++kvs) (by simp) (fun x hx=>?_) fun i=>?_) g1
   ·rcases lA5.1 hx with hx | hx
    ·rw [hd2 x hx];rfl
    ·obtain ⟨i,hi,rfl⟩:=lBW.1 hx
     obtain ⟨l',hl'⟩:=z0M (l:=ls) (i:=i) (by simp at hl;omega)
     rcases hr (i+1) kvs[i] l' (by simp) hl' with ⟨_,b⟩ | ⟨kc,b,_⟩
     ·rw [b];rfl
     ·rw [b];rfl
   ·have hfd:z0d dn=dn:=z1J hd
    have ef1:z0d (dn++AV.sl kb 0 l.length 2::kvs)=dn++([AV.sl kb 0 l.length 2]++z0d kvs):=by rw [z3f,hfd];rfl
    have ef2:z0d ((dn++[z4Z l])++kvs)=(dn++([AV.sl kb 0 l.length 2]++z0d kvs)).set dn.length (z4Z l):=by
     rw [z3f,z1J hd2,lA6 _ _ (lAL _),lBG,lA3];rfl
    rw [ef1,ef2,zJu (by simp)]
    split
    ·rename_i e
     subst e
     rw [lAB,lAM (lAL _),lBG,hrw]
     exact .base _ _ (.sl 0 _ 2 (l.map z4Q) (by simp) (fun x hx=>by obtain ⟨q,_,rfl⟩:=lBB.1 hx;rfl) (by rw [lBP,←z9a,lAW]) (by rw [z9a];omega))
    ·exact .refl _
section
variable {D:Nat→Bt→Bool} {aid mid:Nat} {H:z0B}
def z2s (ps:List (Bt × Bt)) (fs gs:List (Bt→Bool)) (x:Bt):List (List (Nat × Nat)):=(List.range x.length).map (z8w ps fs gs x)
theorem a28s {lk pv av bv:AV} {ps:List (Bt × Bt)} {cs ds:List AV} {fs gs:List (Bt→Bool)} {x:Bt} (hl:LookV D aid mid H lk pv av bv ps cs ds fs gs) (hx:x.length≤1000000) (hin:z0m D mid H H) :
  z0C PP 21 [lk,.str x] H (zLn (fun u H'=>u=.list 1 ((z2s ps fs gs x).map z4Z)∧z0m D mid H H') (fun _ _=>False)):=by
 refine z0C.sealed (n:=H.length) ((a28 hl hx hin).mono fun r H' q=>?_)
 obtain ⟨v,rfl,hi,ob,kvs,rfl,hob,hkl,hlo,hrow⟩:=q
 have hml:=hin.lt
 have hlen:(z2s ps fs gs x).length=x.length:=by simp [z2s]
 have hget:∀ (i:Nat) (l:List (Nat × Nat)),(z2s ps fs gs x)[i]? =some l→i<x.length∧l=z8w ps fs gs x i:=fun i l h=>by
  have hi:=(lAA.1 h).1
  rw [hlen] at hi
  unfold z2s at h
  rw [lAK,lCF hi] at h
  injection h with h
  exact ⟨hi,h.symm⟩
 have hone:∀ y∈kvs,y.cells=[y]:=fun y hy=>by
  obtain ⟨i,hi,rfl⟩:=lBW.1 hy
  have:=hrow i (by omega)
  rw [lAB,lAG hi] at this
  rcases this with ⟨_,b⟩ | ⟨kb,b,_⟩<;>(simp only [lCY] at b;rw [b];rfl)
 have hpw:(z2s ps fs gs x).Pairwise (fun a b=>a≠[]→z0d (a.map z4Q)≠z0d (b.map z4Q)):=by
  rw [lDN]
  intro i j hi hj hij hne e
  obtain ⟨_,e1⟩:=hget i _ (lAG hi)
  obtain ⟨_,e2⟩:=hget j _ (lAG hj)
  rw [e1] at hne e
  rw [e2] at e
  unfold z8w at hne e
  cases ha:atP ps fs gs (x.take i) (x.drop i) with
  | nil=>rw [ha] at hne;exact hne rfl
  | cons a la =>
   cases hb:atP ps fs gs (x.take j) (x.drop j) with
   | nil=>rw [ha,hb] at e;cases e
   | cons b lb =>
    rw [ha,hb] at e
    have h0:=congrArg (fun l=>l[0]?) e
    have h1:=congrArg (fun l=>l[1]?) e
    have h0':(some (AV.int .i64 (a:Nat)))=some (AV.int .i64 (b:Nat)):=h0
    have h1':(some (AV.int .i64 ((i+(ps.getD a ([],[])).1.length:Nat):Int)))=some (AV.int .i64 ((j+(ps.getD b ([],[])).1.length:Nat):Int)):=h1
    injection h0' with h0'
    injection h0' with _ h0'
    injection h1' with h1'
    injection h1' with _ h1'
    have hab:a=b:=by omega
    subst hab
    omega
 have hob2:∀ (j:Nat) (b:Blk),j≠ob→H'[j]? =some b→(H'.set ob .dead)[j]? =some b:=fun j b h1 h2=>z0K h2 fun e=>h1 e.symm
 obtain ⟨K,g1,g2,g3⟩:=zFK (n:=H.length) (lo:=H.length) (lAL _) kvs (z2s ps fs gs x) [] (H'.set ob .dead) (by rw [hkl,hlen]) (fun x hx=>by cases hx) (fun i kv l h1 h2=>by
  obtain ⟨hi,e⟩:=hget i l h2
  have:=hrow i hi
  rw [lAB,h1,←e] at this
  rcases this with ⟨a,b⟩ | ⟨kb,a,b,c,d⟩
  ·exact .inl ⟨a,b⟩
  ·refine .inr ⟨kb,a,hob2 _ _ (fun e=>?_) b,c,d⟩
   subst e
   rw [hob] at b
   injection b with b
   injection b with b
   have hlk:=lAF h1
   rw [b] at hlk
   cases hl:l with
   | nil=>exact d hl
   | cons q l' =>
    rw [hl] at b
    have:(AV.int .i64 q.1)∈kvs:=by rw [b];simp [z4Q,z0d,AV.cells]
    obtain ⟨i',hi',e'⟩:=lBW.1 this
    have:=hrow i' (by omega)
    rw [lAB,lAG hi',lCY,e'] at this
    rcases this with ⟨_,b⟩ | ⟨kb,b,_⟩<;>cases b) hpw
 simp only [lDG] at g1
 refine .inl ⟨_,_,K,rfl,.step ob kvs hlo hob (.base _ _ (.sl 0 _ 1 kvs hkl (fun y hy=>by rw [hone y hy];rfl) (by rw [z1J hone,lBP,lCB,lAQ (by omega)]) (by omega))) g1,rfl,?_⟩
 exact hi.pres hml (fun j b hj hb=>g2 j b hj (z0K hb (by omega))) (by simpa using g3)
end
end Go.Ab
