/- Part 36 of the proof. -/
import Derived.Test.YtagcckioikbanaaGreatDoorA22
import Derived.Test.YtagcckioikbanaaGreatDoorA25
import Derived.Test.YtagcckioikbanaaGreatDoorA27
import Derived.Test.YtagcckioikbanaaGreatDoorA31
import Derived.Test.YtagcckioikbanaaGreatDoorA33
set_option linter.unusedVariables false
set_option linter.unusedSimpArgs false
namespace Go.Ab
open Go
set_option maxRecDepth 100000
set_option maxHeartbeats 8000000
section steps
variable {P:Program} {H G:z0B} {al:AL} {K:KL} {Qp:AL→AV→z0B→Prop} {os:List IOper} {d:Nat} {x y z:Arg}
theorem zMM {id o:Nat} (hx:evL al x=.ptr id o) (h:VV P os ((d,.ptr id o)::al) H K Qp):VV P (⟨some d,.i (.d .nilCheck),[x],none,none⟩::os) al H K Qp :=
 z2K (v:=.ptr id o) (by simp only [z1G,hx,z1t]) h
theorem zAr {s:Bt} {i:Nat} (hx:evL al x=.str s) (hy:evL al y=.int .i64 i) (hi:i≤s.length) (h:VV P os ((d,.str (s.drop i))::al) H K Qp) :
  VV P (⟨some d,.i (.d (.sliceStr true false)),[x,y],none,none⟩::os) al H K Qp:=by
 refine z5e (a:=i) (b:=s.length) hx (zJz hy zNh) ?_ ?_
 ·simp only [z2R];rw [if_pos ⟨by omega,by omega⟩];simp
 ·rw [lAQ (by simp)];exact h
theorem zGz {s:Bt} {i:Nat} (hx:evL al x=.str s) (hy:evL al y=.int .i64 i) (hi:i≤s.length) (h:VV P os ((d,.str (s.take i))::al) H K Qp) :
  VV P (⟨some d,.i (.d (.sliceStr false true)),[x,y],none,none⟩::os) al H K Qp:=by
 refine z5e (a:=0) (b:=i) hx (zJz hy zNh) ?_ ?_
 ·simp only [z2R];rw [if_pos ⟨by omega,by omega⟩];simp
 ·simpa using h
end steps
theorem z1M {g n:Prop} (k:n) (h:Hide n→g:=by (intro k);(repeat (first | ((with_reducible apply z8K);focus (first | exact z3F | (apply z3E;(repeat (first | exact z0Y | (apply z0Q;focus exact rfl) | exact lk_nil))))) | ((with_reducible apply zMM);exact rfl) | ((with_reducible apply st_iface);exact rfl) | ((with_reducible apply zAr);exact rfl;exact rfl;(focus omega)) | ((with_reducible apply zGz);exact rfl;exact rfl;(focus omega)) | ((with_reducible apply z8P)) | ((with_reducible apply zAs);exact rfl;(focus assumption)) | ((with_reducible apply st_mkfB);exact rfl) | ((with_reducible apply zDf);exact rfl;exact rfl;(focus ((try simp only [lAH,lBC,lC5]);omega))) | ((with_reducible apply z9H);(focus (first | exact z3F | (apply z3E;(repeat (first | exact z0Y | (apply z0Q;focus exact rfl) | exact lk_nil)))));(focus assumption);exact rfl;(focus assumption)) | ((with_reducible apply z9G);(focus (first | exact z3F | (apply z3E;(repeat (first | exact z0Y | (apply z0Q;focus exact rfl) | exact lk_nil)))));(focus assumption);exact rfl;(focus assumption)) | ((with_reducible apply z5B);exact rfl;exact rfl) | ((with_reducible apply z5C);exact rfl) | ((with_reducible apply zCa);exact rfl;exact rfl) | ((with_reducible apply zCj);exact rfl;exact rfl) | ((with_reducible apply st_field);exact rfl;exact rfl) | ((with_reducible apply z4C);exact rfl;exact rfl) | ((with_reducible apply zCf);exact rfl;exact rfl) | ((with_reducible apply zCb);exact rfl;exact rfl) | ((with_reducible apply zCg);exact rfl;exact rfl) | ((with_reducible apply zCX);exact rfl;exact rfl) | ((with_reducible apply zCh);exact rfl;exact rfl) | ((with_reducible apply zCW);exact rfl;exact rfl) | ((with_reducible apply zCZ);exact rfl;exact rfl) | ((with_reducible apply zCe);exact rfl;exact rfl) | ((with_reducible apply zCU);exact rfl) | ((with_reducible apply z5F);exact rfl;exact rfl) | ((with_reducible apply z2W);exact rfl;exact rfl) | ((with_reducible apply zCc);(focus (first | exact z3F | (apply z3E;(repeat (first | exact z0Y | (apply z0Q;focus exact rfl) | exact lk_nil)))));(focus assumption)) | ((with_reducible apply z9m);(focus (first | exact z3F | (apply z3E;(repeat (first | exact z0Y | (apply z0Q;focus exact rfl) | exact lk_nil)))));(focus assumption);exact rfl;(focus assumption)) | ((with_reducible apply z5D);exact rfl;exact rfl;(focus assumption)) | ((with_reducible apply z1v);exact rfl;exact rfl;exact rfl;exact rfl;exact rfl;(focus (first | exact rfl | exact z7x));exact rfl) | ((with_reducible apply z5A);exact rfl;exact rfl;exact rfl) | ((with_reducible apply z6p);exact rfl;(focus (first | assumption | exact z0G (by assumption)));exact rfl) | ((with_reducible apply z5g);exact rfl;exact rfl) | ((with_reducible apply z3a);exact rfl;(focus (first | exact z3F | (apply z3E;(repeat (first | exact z0Y | (apply z0Q;focus exact rfl) | exact lk_nil)))));exact rfl;exact rfl;exact rfl;exact rfl) | ((with_reducible apply z5f);exact rfl;exact rfl;exact rfl) | ((with_reducible apply z1s);exact rfl;(focus (first | assumption | exact z0G (by assumption)));exact rfl) | ((with_reducible apply zAt);(focus (first | exact z3F | (apply z3E;(repeat (first | exact z0Y | (apply z0Q;focus exact rfl) | exact lk_nil)))));exact rfl;exact rfl;exact rfl) | ((with_reducible apply z5E);exact rfl) | ((with_reducible apply z6q);exact rfl) | ((with_reducible apply z3U);exact rfl;exact rfl;(focus (first | decide | omega))) | ((with_reducible apply zCd);exact rfl;(focus omega)) | ((with_reducible apply z8M);focus (repeat (first | exact z6Z | ((with_reducible apply kp);focus (repeat (first | exact z0Y | (apply z0Q;focus exact rfl) | exact lk_nil)))))) | ((with_reducible apply zLx);focus (repeat (first | exact z6Z | ((with_reducible apply kp);focus (repeat (first | exact z0Y | (apply z0Q;focus exact rfl) | exact lk_nil)))))) | ((with_reducible apply zZA);exact rfl;exact rfl) | ((with_reducible apply zZB);exact rfl;exact rfl;(focus exact lAL _)) | ((with_reducible apply zHD)) | (with_reducible apply zHC) | ((with_reducible apply z8H);(focus (first | exact rfl | exact congrArg AV.bool (by assumption)));(focus (first | exact z3F | (apply z3E;(repeat (first | exact z0Y | (apply z0Q;focus exact rfl) | exact lk_nil)))))) | ((with_reducible apply z8J);(focus (first | exact rfl | exact congrArg AV.bool (by assumption)));(focus (first | exact z3F | (apply z3E;(repeat (first | exact z0Y | (apply z0Q;focus exact rfl) | exact lk_nil)))))) | ((with_reducible apply z6M);(focus (first | exact rfl | exact congrArg AV.bool (by assumption)))) | ((with_reducible apply zFA);(focus (first | exact rfl | exact congrArg AV.bool (by assumption)))) | ((with_reducible apply zFB);(focus (first | exact rfl | exact congrArg AV.bool (by assumption)))) | ((with_reducible apply zCV);exact rfl) | with_reducible refine z1E ?_ | with_reducible refine z0V ?_ | with_reducible refine zJb ?_ | with_reducible refine z7m ?_ | with_reducible refine z8j ?_ | with_reducible refine zGD ?_ | with_reducible refine zBW ?_ | with_reducible refine zUL ?_ | with_reducible refine zUM ?_ | with_reducible refine zYb ?_ | with_reducible refine zYa ?_ | with_reducible refine zYZ ?_ | with_reducible refine bk_y rfl ?_ | ((with_reducible apply zGC);(focus (first | exact rfl | exact congrArg AV.bool (by assumption)))) | ((with_reducible apply zHa);(focus (first | exact rfl | exact congrArg AV.bool (by assumption)))) | refine z1E ?_ | refine zAU rfl rfl ?_ | with_reducible refine zJp ?_));(exact k.h)):g:=h ⟨k⟩
section steps
variable {P:Program} {H G:z0B} {al:AL} {K:KL} {Qp:AL→AV→z0B→Prop} {os:List IOper} {d:Nat} {x y z:Arg}
theorem z8P {zs:List AV} (h:VV P os ((d,.ptr H.length 0)::al) (H++[.cells zs]) K Qp):VV P (⟨some d,.i (.m (.alloc zs)),[],none,none⟩::os) al H K Qp:=by
 refine z9J ?_ h
 show some (AV.ptr H.length 0,put H H.length (.cells zs))=_
 unfold put;rw [if_neg (by omega)]
theorem zAs {id:Nat} {a b c:AV} (hx:evL al x=.ptr id 0) (hg:H[id]? =some (.cells [a,b,c])) (h:VV P os ((d,.agg [a,b,c])::al) H K Qp):VV P (⟨some d,.i (.m (.load (some 3))),[x],none,none⟩::os) al H K Qp :=
 z1s hx hg rfl h
end steps
abbrev zHg (l:List Ex):List AV:=z0d (l.map enc)
theorem zGQ (l m:List Ex):zHg (l++m)=zHg l++zHg m:=by simp [z0d]
theorem zBd (op:Int) (s:Bt) (nl:Bool) (l:List Ex):zHg [.mk op s nl l]=[.int .i64 op,.str s,lst nl l]:=by
 show (enc _).cells++[]=_
 rw [z0e];rfl
section steps
variable {H:z0B} {al:AL} {K:KL} {Qp:AL→AV→z0B→Prop} {os:List IOper} {d:Nat} {x y z:Arg}
theorem z0z {c:Blk} {k:Nat} {zs ws:List AV} (hc:c=.cells zs) (hx:evL al x=.ptr H.length 0) (hy:evL al y=.agg ws) (hw:ws.length=k) (hl:zs.length=k) (hs:ws.all AV.scalar=true)
  (h:VV PP os al (H++[.cells ws]) K Qp):VV PP (⟨none,.i (.m (.store k)),[x,y],none,none⟩::os) al (H++[c]) K Qp:=by
 subst hc
 refine z0h (.agg ws) hx hy (cs:=zs) (cs':=ws) (by rw [lAM (lAL _),lBG];rfl) (by simp [AV.shaped,AV.cells,hw,hl];simpa using hs) (zFJ (by simp [AV.cells,hw,hl])) (by simp) h
theorem zAT {c:Blk}:(H++[c])[H.length]? =some c:=by rw [lAM (lAL _),lBG];rfl
end steps
def zYh (D:Nat→Bt→Bool) (es:z3T):Prop:=∀ e∈es,∃ (k:Nat) (w:Bt) (t:Nat),e=(.agg [.int .i64 k,.str w],.bool (D k w),t)
def z0m (D:Nat→Bt→Bool) (mid:Nat) (H H':z0B):Prop:=∃ es c,zYh D es∧Mod H mid (.map es c) H'
structure AskAt (D:Nat→Bt→Bool) (aid mid:Nat) (H:z0B):Prop where
 at_:∃ n:Int,H[aid]? =some (.cells [.map mid,.int .i64 n])
 ne:aid≠mid
 inn:z0m D mid H H
def z2A (D:Nat→Bt→Bool) (mid:Nat) (H:z0B) (b:Bool):z2g:=fun r H'=>r=.ret (.bool b)∧z0m D mid H H'
section ask
variable {D:Nat→Bt→Bool} {aid mid:Nat} {H H' H'':z0B}
theorem z0m.trans (h:z0m D mid H H') (k:z0m D mid H' H''):z0m D mid H H'':=by
 obtain ⟨_,_,_,m⟩:=h
 obtain ⟨es,c,v,m'⟩:=k
 exact ⟨es,c,v,m.trans m'⟩
theorem z0m.app (h:z0m D mid H H') (G:z0B):z0m D mid H (H'++G):=by
 obtain ⟨es,c,v,m⟩:=h
 exact ⟨es,c,v,m.app G⟩
theorem z0m.lt (h:z0m D mid H H'):mid<H'.length:=by
 obtain ⟨es,c,v,m⟩:=h
 exact m.lt
theorem z0m.own {id:Nat} {x:Blk} (h:z0m D mid H H') (h1:H.length≤id) (h2:id≠mid):z0m D mid H (H'.set id x):=by
 obtain ⟨es,c,v,m⟩:=h
 exact ⟨es,c,v,m.own h1 h2⟩
theorem z0m.old {id:Nat} {x:Blk} (h:z0m D mid H H') (h1:id≠mid) (h2:H[id]? =some x):H'[id]? =some x:=by
 obtain ⟨es,c,v,m⟩:=h
 exact m.old id x h1 h2
theorem z0m.len (h:z0m D mid H H'):H.length≤H'.length:=by
 obtain ⟨es,c,v,m⟩:=h
 exact m.len
theorem z0m.mod (h:z0m D mid H H'):∃ b,Mod H mid b H':=by
 obtain ⟨es,c,v,m⟩:=h
 exact ⟨_,m⟩
theorem z0m.self (h:z0m D mid H H'):z0m D mid H' H':=by
 obtain ⟨es,c,v,m⟩:=h
 exact ⟨es,c,v,Mod.refl m.get⟩
theorem AskAt.to (h:AskAt D aid mid H) (k:z0m D mid H H'):AskAt D aid mid H':=by
 obtain ⟨n,hn⟩:=h.at_
 exact ⟨⟨n,k.old h.ne hn⟩,h.ne,k.self⟩
theorem AskAt.app (h:AskAt D aid mid H) (G:z0B):AskAt D aid mid (H++G):=h.to (h.inn.app G)
theorem AskAt.lt (h:AskAt D aid mid H):aid<H.length:=by
 obtain ⟨n,hn⟩:=h.at_
 exact (lAA.1 hn).1
theorem AskAt.mlt (h:AskAt D aid mid H):mid<H.length:=h.inn.lt
end ask
theorem z0E {H:z0B} {c:Blk}:(H++[c])[H.length]? =some c:=by rw [lAM (lAL _),lBG];rfl
def BL (l:List Bool):Blk:=.cells (l.map .bool)
section rows
variable {P:Program} {H:z0B} {al:AL} {K:KL} {Qp:AL→AV→z0B→Prop} {os:List IOper} {d:Nat} {x y z:Arg}
theorem z9F {n:Nat} (hx:evL al x=.int .i64 n) (hn:n≤1000000000) (h:VV P os ((d,.sl H.length 0 n 1)::al) (H++[BL (List.replicate n false)]) K Qp) :
  VV P (⟨some d,.i (.m (.makeSlice 1 1 [.bool false])),[x,x],none,none⟩::os) al H K Qp:=by
 refine z9J ?_ h
 have e:z1C n [AV.bool false]=(List.replicate n false).map .bool:=by
  clear hn hx h
  induction n with
  | zero=>rfl
  | succ n ih =>
   have:z1C (n+1) [AV.bool false]=AV.bool false::z1C n [AV.bool false]:=rfl
   rw [this,ih,lEB,lBA]
 simp only [z5p,z7J,z1G,hx]
 rw [if_pos ⟨by omega,by omega,by omega,by omega⟩]
 unfold put;rw [if_neg (by omega),lDQ,e];rfl
theorem z3p {id k:Nat} {l:List Bool} {b:Bool} (hx:evL al x=.ptr id (0+k*1)) (hg:H[id]? =some (BL l)) (hb:l[k]? =some b) (h:VV P os ((d,.bool b)::al) H K Qp) :
  VV P (⟨some d,.i (.m (.load none)),[x],none,none⟩::os) al H K Qp:=by
 refine z1s hx hg ?_ h
 show (l.map AV.bool)[0+k*1]? =_
 rw [lBH,lCB,lAK,hb];rfl
theorem z3n {id k:Nat} {l:List Bool} {b:Bool} (hx:evL al x=.ptr id (0+k*1)) (hy:evL al y=.bool b) (hg:H[id]? =some (BL l)) (hk:k<l.length) (h:VV P os al (H.set id (BL (l.set k b))) K Qp) :
  VV P (⟨none,.i (.m (.store 1)),[x,y],none,none⟩::os) al H K Qp:=by
 refine z0h (.bool b) hx hy hg ?_ ?_ rfl h
 ·simp [AV.shaped,AV.cells,AV.scalar];omega
 ·show z3B (l.map AV.bool) (0+k*1) [.bool b]=(l.set k b).map AV.bool
  rw [lBH,lCB,List.map_set]
  unfold z3B
  rw [lC6,if_pos (by simpa using hk)]
  simp
end rows
def z6t {α:Type} (f:List α→Bool) (w:List α) (is:Bool) (lo i:Nat) (l:List Bool) (m:Nat):List Bool:=l.mapIdx fun k b=>b||(is&&decide (lo≤k)&&decide (k<m)&&f (sub w i k))
section rowp
variable {α:Type} {f:List α→Bool} {w:List α} {is:Bool} {lo i m:Nat} {l:List Bool}
theorem z8W:(z6t f w is lo i l m).length=l.length:=by simp [z6t]
theorem zJW:(zDq f w is lo i l).length=l.length:=by simp [zDq]
theorem z2q {k:Nat} {b:Bool} (h:l[k]? =some b):(z6t f w is lo i l m)[k]? =some (b||(is&&decide (lo≤k)&&decide (k<m)&&f (sub w i k))):=by
 simp only [z6t,List.getElem?_mapIdx,h,lBN]
theorem zDr (h:m≤lo):z6t f w is lo i l m=l:=by
 apply lCH
 intro k
 cases hk:l[k]? with
 | none=>simp [z6t,hk]
 | some b =>
  rw [z2q hk]
  have:(decide (lo≤k)&&decide (k<m))=false:=by
   by_cases h1:lo≤k
   ·have:¬ k<m:=by omega
    simp [this]
   ·simp [h1]
  rw [Bool.and_assoc is,this];simp
theorem zDp:zDq f w false lo i l=l:=by
 apply lCH
 intro k
 cases hk:l[k]? with
 | none=>simp [zDq,hk]
 | some b=>simp [zDq,hk]
theorem zAQ (h:l.length≤m):z6t f w is lo i l m=zDq f w is lo i l:=by
 apply lCH
 intro k
 cases hk:l[k]? with
 | none=>simp [z6t,zDq,hk]
 | some b =>
  have h1:=(lAA.1 hk).1
  have:k<m:=by omega
  rw [z2q hk]
  simp [zDq,hk,this]
theorem zDs (hm:m<l.length):(z6t f w is lo i l m)[m]? =some (l.getD m false):=by
 have h:l[m]? =some (l.getD m false):=by rw [lAB,lAG hm];rfl
 rw [z2q h]
 have:¬ m<m:=by omega
 simp [this]
theorem z8V (hm:m<l.length) (h:lo≤m):(z6t f w true lo i l m).set m (l.getD m false||f (sub w i m))=z6t f w true lo i l (m+1):=by
 apply lCH
 intro k
 rw [lBF]
 split
 ·rename_i e
  subst e
  rw [if_pos (by rw [z8W];exact hm)]
  have h':l[m]? =some (l.getD m false):=by rw [lAB,lAG hm];rfl
  rw [z2q h']
  have:m<m+1:=by omega
  simp [h,this]
 ·rename_i e
  cases hk:l[k]? with
  | none=>simp [z6t,hk]
  | some b =>
   rw [z2q hk,z2q hk]
   have:(k<m)=(k<m+1):=by apply propext;omega
   simp only [this]
end rowp
theorem z4z {α:Type} [BEq α] (f:List α→Bool) (w:List α):∀ i,(z3m f w i).length=w.length+1
 | 0=>by simp [z3m,z9W]
 | i+1=>by rw [z3m,zJW,z4z f w i]
def zJA (D:Nat→Bt→Bool) (aid mid:Nat) (v:AV) (f:Bt→Bool):Prop:=∀ (H:z0B) (w:Bt),w.length≤1000000→AskAt D aid mid H→z0C PP 94 [.ptr aid 0,v,.str w] H (z2A D mid H (f w))
theorem z3W {l:List Bool} {k:Nat} (h:k<l.length):l[k]? =some (l.getD k false):=by rw [lAB,lAG h];rfl
theorem z5V {n i k:Nat} (h1:i≤k) (h2:k≤n):z2R n true true [.int .i64 i,.int .i64 k]=some (i,k):=by
 simp only [z2R]
 rw [if_pos ⟨by omega,by omega,by omega,by omega⟩]
 simp
theorem a243 {D:Nat→Bt→Bool} {aid mid:Nat} {v:AV} {f:Bt→Bool} {w:Bt} {H:z0B} (hf:zJA D aid mid v f) (hw:w.length≤1000000) (ha:AskAt D aid mid H):z0C PP 206 [.ptr aid 0,v,.str w] H (z2A D mid H (z4h f w)):=by
 refine zUq.c3 z0P mixed rfl ?_
 rw [lAJ]
 have hml:=ha.mlt
 have hal:=ha.lt
 refine z1M ?_
 refine z9F rfl (by omega) ?_
 have x1:(H++[BL (List.replicate (w.length+1) false)])[H.length]? =some (BL (List.replicate (w.length+1) false)):=z0E
 have xi:=ha.inn.app [BL (List.replicate (w.length+1) false)]
 generalize (H++[BL (List.replicate (w.length+1) false)]:z0B)=X at *
 refine z1M ?_
 refine z3U (i:=0) rfl rfl (by omega) ?_
 refine z3n rfl rfl x1 (by simp) ?_
 have hxl:=xi.len
 have hx1:=(lAA.1 x1).1
 have y1:(X.set H.length (BL ((List.replicate (w.length+1) false).set 0 true)))[H.length]? =some (BL (z3m f w 0)):=by
  rw [lAT hx1];rfl
 have yi:=xi.own (id:=H.length) (x:=BL ((List.replicate (w.length+1) false).set 0 true)) (by omega) (by omega)
 generalize (X.set H.length (BL ((List.replicate (w.length+1) false).set 0 true)))=Y at *
 have hnl:H.length≠mid:=by omega
 clear x1 xi hx1 hxl X
 refine z1M ?_
 refine z0H w.length (fun i al H'=>al=[(0,.ptr aid 0),(1,v),(2,.str w),(7,.sl H.length 0 (w.length+1) 1),(17,.int .i64 w.length),(18,.int .i64 i)]∧z0m D mid H H'∧H'[H.length]? =some (BL (z3m f w i))) ⟨rfl,yi,y1⟩ ?_
 clear y1 yi Y
 rintro i _ V hi ⟨rfl,vi,v1⟩
 have e1:decide ((i:Int)<(w.length:Int))=decide (i<w.length):=by simp only [lAP];omega
 refine z1M ?_
 rw [e1]
 cases hc:decide (i<w.length)
 ·simp only [lAC] at hc
  obtain rfl:i=w.length:=by omega
  refine z1M ?_
  refine z3p rfl v1 (z3W (by rw [z4z];omega)) ?_
  refine z1M ?_
  exact z0W rfl ⟨rfl,vi⟩
 ·simp only [lAE] at hc
  have hl:=z4z f w i
  generalize hLs:z3m f w i=L at *
  refine z1M ?_
  refine z0H (w.length+1) (fun j al H'=>al=[(0,.ptr aid 0),(1,v),(2,.str w),(7,.sl H.length 0 (w.length+1) 1),(8,.int .i64 i),(9,.int .i64 (i+1+j:Nat)),(17,.int .i64 w.length),(18,.int .i64 i)]∧z0m D mid H H'∧H'[H.length]? =some (BL (z6t f w (L.getD i false) (i+1) i L (i+1+j)))) ⟨rfl,vi,by rw [zDr (by omega)];exact v1⟩ ?_
  clear v1 vi V
  rintro j _ V hj ⟨rfl,vi,v1⟩
  have hVl:=vi.len
  have hl2:(z6t f w (L.getD i false) (i+1) i L (i+1+j)).length=w.length+1:=by rw [z8W,hl]
  have hi0:(z6t f w (L.getD i false) (i+1) i L (i+1+j))[i]? =some (L.getD i false):=by
   rw [z2q (z3W (by omega))]
   have:¬ i+1≤i:=by omega
   simp [this]
  have hend:i<w.length→L.getD i false=false∨w.length<i+1+j→z6t f w (L.getD i false) (i+1) i L (i+1+j)=z3m f w (i+1):=by
   intro hiw h
   rw [z3m,hLs]
   rcases h with h | h
   ·rw [h,zDp]
    apply lCH
    intro k
    cases hk:L[k]? with
    | none=>simp [z6t,hk]
    | some b=>rw [z2q hk];simp
   ·exact zAQ (by omega)
  generalize hR:z6t f w (L.getD i false) (i+1) i L (i+1+j)=R at *
  refine z1M ?_
  refine z3p rfl v1 hi0 ?_
  have e2:decide (((i+1+j:Nat):Int)≤(w.length:Int))=decide (i+1+j≤w.length):=by simp only [lAP];omega
  cases his:L.getD i false
  ·rw [his] at hend
   have:=hend hc (.inl rfl)
   refine z1M ?_
   exact ⟨hc,rfl,vi,by rw [←this];exact v1⟩
  rw [his] at hR hend
  refine z1M ?_
  rw [e2]
  cases hk:decide (i+1+j≤w.length)
  ·simp only [lAC] at hk
   have:=hend hc (.inr (by omega))
   refine z1M ?_
   exact ⟨hc,rfl,vi,by rw [←this];exact v1⟩
  simp only [lAE] at hk
  have hat:=zDs (f:=f) (w:=w) (is:=true) (lo:=i+1) (i:=i) (l:=L) (m:=i+1+j) (by omega)
  have hst:=z8V (f:=f) (w:=w) (lo:=i+1) (i:=i) (l:=L) (m:=i+1+j) (by omega) (by omega)
  rw [hR] at hat hst
  refine z1M ?_
  refine z3p rfl v1 hat ?_
  cases hb:L.getD (i+1+j) false
  ·rw [hb,lCP] at hst
   refine z1M ?_
   refine z5e rfl rfl (z5V (by omega) hk) ?_
   refine z6M rfl ?_
   refine z0L rfl (hf V (sub w i (i+1+j)) (by unfold sub;simp;omega) (ha.to vi)) ?_ ?_
   ·rintro u V' ⟨hu,hin⟩
    cases hu
    have v2:=hin.old hnl.symm.symm v1
    have vi2:=vi.trans hin
    refine z1M ?_
    refine z3n rfl rfl v2 (by omega) ?_
    refine z1M ?_
    refine ⟨by omega,rfl,vi2.own (by omega) (by omega),?_⟩
    rw [lAT (lAA.1 v2).1,hst];rfl
   ·rintro u V' ⟨hu,_⟩
    cases hu
  ·rw [hb,lED] at hst
   refine z1M ?_
   refine z3n rfl rfl v1 (by omega) ?_
   refine z1M ?_
   refine ⟨by omega,rfl,vi.own (by omega) (by omega),?_⟩
   rw [lAT (lAA.1 v1).1,hst];rfl
theorem z2r {g:Nat→Bool} {i:Nat} (h:(List.range i).any g=false) (h2:g i=false):(List.range (i+1)).any g=false:=by
 rw [lDR,lDJ,h];simp [h2]
theorem z3t {g:Nat→Bool} {i n:Nat} (h:i<n) (h2:g i=true):(List.range n).any g=true :=
 lA0.2 ⟨i,lA8.2 h,h2⟩
theorem zBu {n i:Nat} (h1:i≤n):z2R n true false [.int .i64 i]=some (i,n):=by
 simp only [z2R]
 rw [if_pos ⟨by omega,by omega⟩]
 simp
theorem z8u {n i:Nat} (h1:i≤n):z2R n false true [.int .i64 i]=some (0,i):=by
 simp only [z2R]
 rw [if_pos ⟨by omega,by omega⟩]
 simp
theorem zAh {α:Type} (w:List α) (i:Nat):(w.drop i).take (w.length-i)=w.drop i:=lAQ (by simp)
section
variable {D:Nat→Bt→Bool} {aid mid:Nat} {v:AV} {f:Bt→Bool} {w:Bt} {H:z0B}
theorem a63 (hf:zJA D aid mid v f) (hw:w.length≤1000000) (ha:AskAt D aid mid H):z0C PP 50 [.ptr aid 0,v,.str w] H (z2A D mid H (z3N f w)):=by
 refine is50.c3 z0P mixed rfl ?_
 rw [lAJ]
 unfold z3N
 refine z1M ?_
 refine z0H (w.length+1) (fun i al H'=>al=[(0,.ptr aid 0),(1,v),(2,.str w),(10,.int .i64 (w.length+1:Nat)),(11,.int .i64 i)]∧z0m D mid H H'∧(List.range i).any (fun i=>f (w.drop i))=false) ⟨rfl,ha.inn,rfl⟩ ?_
 rintro i _ V hi ⟨rfl,vi,v1⟩
 have e1:decide ((i:Int)<((w.length+1:Nat):Int))=decide (i<w.length+1):=by simp only [lAP];omega
 refine z1M ?_
 rw [e1]
 cases hc:decide (i<w.length+1)
 ·simp only [lAC] at hc
  obtain rfl:i=w.length+1:=by omega
  refine z1M ?_
  exact z0W rfl ⟨by rw [v1];rfl,vi⟩
 ·simp only [lAE] at hc
  refine z1M ?_
  refine z0L rfl (hf V (w.drop i) (by simp;omega) (ha.to vi)) ?_ ?_
  ·rintro u V' ⟨hu,hin⟩
   cases hu
   have vi2:=vi.trans hin
   cases hb:f (w.drop i)
   ·refine z1M ?_
    exact ⟨by omega,rfl,vi2,z2r v1 hb⟩
   ·refine z1M ?_
    exact z0W rfl ⟨by rw [z3t (i:=i) hc hb];rfl,vi2⟩
  ·rintro u V' ⟨hu,_⟩
   cases hu
theorem a65 (hf:zJA D aid mid v f) (hw:w.length≤1000000) (ha:AskAt D aid mid H):z0C PP 52 [.ptr aid 0,v,.str w] H (z2A D mid H (z0r f w)):=by
 refine is52.c3 z0P mixed rfl ?_
 rw [lAJ]
 unfold z0r
 refine z1M ?_
 refine z0H (w.length+1) (fun i al H'=>al=[(0,.ptr aid 0),(1,v),(2,.str w),(10,.int .i64 (w.length+1:Nat)),(11,.int .i64 i)]∧z0m D mid H H'∧(List.range i).any (fun i=>f (w.take i))=false) ⟨rfl,ha.inn,rfl⟩ ?_
 rintro i _ V hi ⟨rfl,vi,v1⟩
 have e1:decide ((i:Int)<((w.length+1:Nat):Int))=decide (i<w.length+1):=by simp only [lAP];omega
 refine z1M ?_
 rw [e1]
 cases hc:decide (i<w.length+1)
 ·simp only [lAC] at hc
  obtain rfl:i=w.length+1:=by omega
  refine z1M ?_
  exact z0W rfl ⟨by rw [v1];rfl,vi⟩
 ·simp only [lAE] at hc
  refine z1M ?_
  refine z0L rfl (hf V (w.take i) (by simp;omega) (ha.to vi)) ?_ ?_
  ·rintro u V' ⟨hu,hin⟩
   cases hu
   have vi2:=vi.trans hin
   cases hb:f (w.take i)
   ·refine z1M ?_
    exact ⟨by omega,rfl,vi2,z2r v1 hb⟩
   ·refine z1M ?_
    exact z0W rfl ⟨by rw [z3t (i:=i) hc hb];rfl,vi2⟩
  ·rintro u V' ⟨hu,_⟩
   cases hu
end
theorem z0A {g n:Prop} (k:n) (h:Hide n→g:=by (intro k);(repeat (first | ((with_reducible apply z8K);focus (first | exact z3F | (apply z3E;(repeat (first | exact z0Y | (apply z0Q;focus exact rfl) | exact lk_nil))))) | ((with_reducible apply zMM);exact rfl) | ((with_reducible apply st_iface);exact rfl) | ((with_reducible apply zAr);exact rfl;exact rfl;(focus omega)) | ((with_reducible apply zGz);exact rfl;exact rfl;(focus omega)) | ((with_reducible apply z8P)) | ((with_reducible apply zAs);exact rfl;(focus assumption)) | ((with_reducible apply st_mkfB);exact rfl) | ((with_reducible apply zMK);exact rfl) | ((with_reducible apply zDf);exact rfl;exact rfl;(focus ((try simp only [lAH,lBC,lC5]);omega))) | ((with_reducible apply z9H);(focus (first | exact z3F | (apply z3E;(repeat (first | exact z0Y | (apply z0Q;focus exact rfl) | exact lk_nil)))));(focus assumption);exact rfl;(focus assumption)) | ((with_reducible apply z9G);(focus (first | exact z3F | (apply z3E;(repeat (first | exact z0Y | (apply z0Q;focus exact rfl) | exact lk_nil)))));(focus assumption);exact rfl;(focus assumption)) | ((with_reducible apply z5B);exact rfl;exact rfl) | ((with_reducible apply z5C);exact rfl) | ((with_reducible apply zCa);exact rfl;exact rfl) | ((with_reducible apply zCj);exact rfl;exact rfl) | ((with_reducible apply st_field);exact rfl;exact rfl) | ((with_reducible apply z4C);exact rfl;exact rfl) | ((with_reducible apply zCf);exact rfl;exact rfl) | ((with_reducible apply zCb);exact rfl;exact rfl) | ((with_reducible apply zCg);exact rfl;exact rfl) | ((with_reducible apply zCX);exact rfl;exact rfl) | ((with_reducible apply zCh);exact rfl;exact rfl) | ((with_reducible apply zCW);exact rfl;exact rfl) | ((with_reducible apply zCZ);exact rfl;exact rfl) | ((with_reducible apply zCe);exact rfl;exact rfl) | ((with_reducible apply zCU);exact rfl) | ((with_reducible apply z5F);exact rfl;exact rfl) | ((with_reducible apply z2W);exact rfl;exact rfl) | ((with_reducible apply zCc);(focus (first | exact z3F | (apply z3E;(repeat (first | exact z0Y | (apply z0Q;focus exact rfl) | exact lk_nil)))));(focus assumption)) | ((with_reducible apply z9m);(focus (first | exact z3F | (apply z3E;(repeat (first | exact z0Y | (apply z0Q;focus exact rfl) | exact lk_nil)))));(focus assumption);exact rfl;(focus assumption)) | ((with_reducible apply z5D);exact rfl;exact rfl;(focus assumption)) | ((with_reducible apply z1v);exact rfl;exact rfl;exact rfl;exact rfl;exact rfl;(focus (first | exact rfl | exact z7x));exact rfl) | ((with_reducible apply z5A);exact rfl;exact rfl;exact rfl) | ((with_reducible apply z6p);exact rfl;(focus (first | assumption | exact z0G (by assumption)));exact rfl) | ((with_reducible apply z5g);exact rfl;exact rfl) | ((with_reducible apply z3a);exact rfl;(focus (first | exact z3F | (apply z3E;(repeat (first | exact z0Y | (apply z0Q;focus exact rfl) | exact lk_nil)))));exact rfl;exact rfl;exact rfl;exact rfl) | ((with_reducible apply z5f);exact rfl;exact rfl;exact rfl) | ((with_reducible apply z1s);exact rfl;(focus (first | assumption | exact z0G (by assumption)));exact rfl) | ((with_reducible apply zAt);(focus (first | exact z3F | (apply z3E;(repeat (first | exact z0Y | (apply z0Q;focus exact rfl) | exact lk_nil)))));exact rfl;exact rfl;exact rfl) | ((with_reducible apply z5E);exact rfl) | ((with_reducible apply z6q);exact rfl) | ((with_reducible apply z3U);exact rfl;exact rfl;(focus (first | decide | omega))) | ((with_reducible apply zCd);exact rfl;(focus omega)) | ((with_reducible apply z8M);focus (repeat (first | exact z6Z | ((with_reducible apply kp);focus (repeat (first | exact z0Y | (apply z0Q;focus exact rfl) | exact lk_nil)))))) | ((with_reducible apply z8H);(focus (first | exact rfl | exact congrArg AV.bool (by assumption)));(focus (first | exact z3F | (apply z3E;(repeat (first | exact z0Y | (apply z0Q;focus exact rfl) | exact lk_nil)))))) | ((with_reducible apply z8J);(focus (first | exact rfl | exact congrArg AV.bool (by assumption)));(focus (first | exact z3F | (apply z3E;(repeat (first | exact z0Y | (apply z0Q;focus exact rfl) | exact lk_nil)))))) | ((with_reducible apply z6M);(focus (first | exact rfl | exact congrArg AV.bool (by assumption)))) | ((with_reducible apply zFA);(focus (first | exact rfl | exact congrArg AV.bool (by assumption)))) | ((with_reducible apply zFB);(focus (first | exact rfl | exact congrArg AV.bool (by assumption)))) | ((with_reducible apply zCV);exact rfl) | (with_reducible apply z3q) | ((with_reducible apply zYm);exact rfl;exact rfl;(focus (first | exact zYJ | exact zTD | (apply zYH;focus (apply zFh;(focus (first | exact z3F | (apply z3E;(repeat (first | exact z0Y | (apply z0Q;focus exact rfl) | exact lk_nil)))));(focus (first | exact trivial | exact z4a (by omega) | exact z2z (by simp))))) | (apply zTC;focus (apply zFh;(focus (first | exact z3F | (apply z3E;(repeat (first | exact z0Y | (apply z0Q;focus exact rfl) | exact lk_nil)))));(focus (first | exact trivial | exact z4a (by omega) | exact z2z (by simp)))))))) | ((with_reducible apply zEq);focus (repeat (first | exact z6Z | ((with_reducible apply kp);focus (repeat (first | exact z0Y | (apply z0Q;focus exact rfl) | exact lk_nil)))))) | (with_reducible apply zDd) | ((with_reducible apply vz_d);exact rfl;exact rfl) | ((with_reducible apply vz_l);exact rfl;exact rfl;(focus (apply zFh;(focus (first | exact z3F | (apply z3E;(repeat (first | exact z0Y | (apply z0Q;focus exact rfl) | exact lk_nil)))));(focus (first | exact trivial | exact z4a (by omega) | exact z2z (by simp)))))) | with_reducible refine z1E ?_ | with_reducible refine z0V ?_ | with_reducible refine zJb ?_ | with_reducible refine z7m ?_ | with_reducible refine z8j ?_ | with_reducible refine zGD ?_ | with_reducible refine zBW ?_ | with_reducible refine zUL ?_ | with_reducible refine zUM ?_ | with_reducible refine zYb ?_ | with_reducible refine zYa ?_ | with_reducible refine zYZ ?_ | with_reducible refine bk_y rfl ?_ | ((with_reducible apply zGC);(focus (first | exact rfl | exact congrArg AV.bool (by assumption)))) | ((with_reducible apply zHa);(focus (first | exact rfl | exact congrArg AV.bool (by assumption)))) | refine z1E ?_ | refine zAU rfl rfl ?_));(exact k.h)):g:=h ⟨k⟩
abbrev KQ:KT:=⟨true,[.int,.str]⟩
theorem keyQ (k k':Nat) (w w':Bt):z4p KQ (.agg [.int .i64 k,.str w]) (.agg [.int .i64 k',.str w'])=some (decide (k=k')&&(w==w')):=by
 have e:((k:Int)==(k':Int))=decide (k=k'):=by
  by_cases h:k=k'
  ·subst h;simp
  ·have:(k:Int)≠(k':Int):=by omega
   simp [h,this]
 simp only [z4p,if_true]
 rw [if_pos ⟨rfl,rfl⟩]
 simp only [z1Q,zPV,if_true,e]
 cases decide (k=k')<;>cases (w==w')<;>rfl
theorem zPR {D:Nat→Bt→Bool} {k:Nat} {w:Bt}:∀ {es:z3T} (i:Nat),zYh D es→∃ r,z2p KQ (.agg [.int .i64 k,.str w]) es i=some r∧∀ j,r=some j→i≤j∧(es.getD (j-i) (.top,.top,0)).2.1=.bool (D k w)
 | [],i,h=>⟨none,rfl,fun j e=>by cases e⟩
 | e::es,i,h=>by
  obtain ⟨k',w',t,rfl⟩:=h e (by simp)
  obtain ⟨r,h1,h2⟩:=zPR (k:=k) (w:=w) (i+1) (fun x hx=>h x (lA4 _ hx))
  have hq:=keyQ k k' w w'
  cases hb:(decide (k=k')&&(w==w'))
  ·rw [hb] at hq
   refine ⟨r,by simp only [z2p,hq];exact h1,fun j hj=>?_⟩
   obtain ⟨a,b⟩:=h2 j hj
   have:j-i=(j-(i+1))+1:=by omega
   refine ⟨by omega,?_⟩
   rw [this,List.getD_cons_succ];exact b
  ·rw [hb] at hq
   simp only [lAS,lAE,lDF] at hb
   obtain ⟨rfl,rfl⟩:=hb
   refine ⟨some i,by simp only [z2p,hq],fun j hj=>?_⟩
   injection hj with hj;subst hj
   exact ⟨lAL _,by simp⟩
theorem zYh.upd {D:Nat→Bt→Bool} {es:z3T} {c k:Nat} {w:Bt} {r:Option Nat} (h:zYh D es):∃ es' c',zRx es c (.agg [.int .i64 k,.str w]) (.bool (D k w)) r=.map es' c'∧zYh D es':=by
 cases r with
 | none =>
  refine ⟨_,_,rfl,fun e he=>?_⟩
  rcases lA5.1 he with he | he
  ·exact h e he
  ·simp only [lAR] at he
   subst he;exact ⟨k,w,c,rfl⟩
 | some i =>
  refine ⟨_,_,rfl,fun e he=>?_⟩
  simp only [z8S] at he
  obtain ⟨j,hj,rfl⟩:=lBW.1 he
  rw [List.getElem_modify]
  simp only [List.length_modify] at hj
  split
  ·exact ⟨k,w,_,rfl⟩
  ·exact h _ (lBY hj)
theorem a113 {D:Nat→Bt→Bool} {aid mid num:Nat} {op:Int} {s:Bt} {kv:AV} (hask:∀ (H:z0B) (w:Bt),w.length≤1000000→AskAt D aid mid H→z0C PP 162 [.ptr aid 0,.cptr [.int .i64 num,.int .i64 op,.str s,kv],.str w] H (z2A D mid H (D num w))) :
  zJA D aid mid (.cptr [.int .i64 num,.int .i64 op,.str s,kv]) (D num):=by
 intro H w hw ha
 refine is94.c3 z0P mixed rfl ?_
 rw [lAJ]
 have hml:=ha.mlt
 have hal:=ha.lt
 refine z0A ?_
 refine z0s (out:=[.int .i64 num,.str w]) rfl rfl ?_
 refine z0A ?_
 refine z0z rfl rfl rfl rfl rfl rfl ?_
 have q1:(H++[Blk.cells [.int .i64 num,.str w]])[H.length]? =some (.cells [.int .i64 num,.str w]):=z0E
 have qi:=ha.inn.app [Blk.cells [.int .i64 num,.str w]]
 have qa:=ha.app [Blk.cells [.int .i64 num,.str w]]
 generalize (H++[Blk.cells [.int .i64 num,.str w]]:z0B)=X at *
 have hxl:=qi.len
 obtain ⟨n,a1⟩:=qa.at_
 have hne:=qa.ne
 obtain ⟨es,c,hv,hm⟩:=qa.inn
 have m1:=hm.get
 obtain ⟨r,hf,hr⟩:=zPR (D:=D) (k:=num) (w:=w) 0 hv
 have hH:H.length≠mid:=by omega
 obtain ⟨is,fnd,hfo,hfd⟩:∃ is fnd,z9Z (.bool false) true (r.map fun i=>(es.getD i (.top,.top,0)).2.1)=.tuple [.bool is,.bool fnd]∧(fnd=true→is=D num w):=by
  cases r with
  | none=>exact ⟨false,false,rfl,fun e=>by cases e⟩
  | some i =>
   have:=(hr i rfl).2
   rw [lEC] at this
   exact ⟨D num w,true,by simp only [lBN,z9Z,this];rfl,fun _=>rfl⟩
 refine z0A ?_
 refine z1B (z2m [mid]) ?_
 refine z0A ?_
 refine z8C rfl rfl (lAL _) (z8L (es:=es) (c:=c) (r:=r) rfl rfl m1 rfl hf hfo ?_)
 refine z0j (fun _ _ _ _ q=>q) ?_
 refine z0A ?_
 cases fnd
 ·refine z0A ?_
  refine z0L rfl (hask X w hw qa) ?_ ?_
  rotate_left
  ·rintro u V' ⟨hu,_⟩
   cases hu
  rintro u Y ⟨hu,hin⟩
  cases hu
  have q2:=hin.old hH q1
  have qa2:=qa.to hin
  have qi2:=qi.trans hin
  clear a1 n m1 hv hm hf hr hfo hfd es c r
  obtain ⟨n,a1⟩:=qa2.at_
  obtain ⟨es,c,hv,hm⟩:=qa2.inn
  have m1:=hm.get
  obtain ⟨r,hf,hr⟩:=zPR (D:=D) (k:=num) (w:=w) 0 hv
  obtain ⟨es',c',hu,hv'⟩:=hv.upd (c:=c) (k:=num) (w:=w) (r:=r)
  refine z0A ?_
  refine z1B (z2m [mid]) ?_
  refine z0A ?_
  refine z8C rfl rfl (lAL _) (z4j (key:=.agg [.int .i64 num,.str w]) (v:=.bool (D num w)) (es:=es) (c:=c) (r:=r) rfl rfl rfl m1 rfl hf ?_)
  rw [hu]
  refine z0j (zMb (by simp)) ?_
  refine z0A ?_
  refine z0W rfl ⟨rfl,?_⟩
  obtain ⟨es2,c2,_,m2⟩:=qi2
  exact ⟨es',c',hv',m2.put⟩
 ·refine z0A ?_
  exact z0W rfl ⟨by rw [←hfd rfl];rfl,qi⟩
theorem z8e {α:Type} [BEq α] (f:List α→Bool) (w:List α) (e:List Bool):∀ i,(z4m f w e i).length=w.length+1
 | 0=>by simp [z4m]
 | i+1=>by rw [z4m,zJW,z8e f w e i]
theorem z7s {α:Type} [BEq α] (f:List α→Bool) (w:List α):∀ (l:List (List α→Bool)) (e:List Bool),z3A (l++[f]) w e=zHV f w (z3A l w e)
 | [],e=>rfl
 | g::l,e=>by simp only [lB8,z3A];exact z7s f w l _
theorem z5U {α:Type} [BEq α] (w:List α):∀ (l:List (List α→Bool)) (e:List Bool),e.length=w.length+1→(z3A l w e).length=w.length+1
 | [],e,h=>h
 | g::l,e,h=>by simp only [z3A];exact z5U w l _ (z8e _ _ _ _)
def zRL (D:Nat→Bt→Bool) (aid mid:Nat) (vs:List AV) (fs:List (Bt→Bool)):Prop:=vs.length=fs.length∧∀ (i:Nat) (v:AV) (f:Bt→Bool),vs[i]? =some v→fs[i]? =some f→zJA D aid mid v f
theorem a240 {D:Nat→Bt→Bool} {aid mid:Nat} {kv:AV} {vs:List AV} {fs:List (Bt→Bool)} {w:Bt} {H:z0B} (hk:Sl 1 kv vs) (hv1:∀ v∈vs,v.cells=[v]) (hf:zRL D aid mid vs fs) (hn:vs.length≤1000000) (hw:w.length≤1000000) (ha:AskAt D aid mid H):z0C PP 203 [.ptr aid 0,kv,.str w] H (z2A D mid H (zBr fs w)):=by
 obtain ⟨hlen,hf⟩:=hf
 refine zUt.c3 z0P mixed rfl ?_
 rw [lAJ]
 have hml:=ha.mlt
 have hal:=ha.lt
 refine z1M ?_
 refine z9F rfl (by omega) ?_
 have x1:(H++[BL (List.replicate (w.length+1) false)])[H.length]? =some (BL (List.replicate (w.length+1) false)):=z0E
 have xi:=ha.inn.app [BL (List.replicate (w.length+1) false)]
 generalize (H++[BL (List.replicate (w.length+1) false)]:z0B)=X at *
 refine z1M ?_
 refine z3U (i:=0) rfl rfl (by omega) ?_
 refine z3n rfl rfl x1 (by simp) ?_
 have hxl:=xi.len
 have hx1:=(lAA.1 x1).1
 have y1:(X.set H.length (BL ((List.replicate (w.length+1) false).set 0 true)))[H.length]? =some (BL (z3A (fs.take 0) w (z9W w.length))):=by
  rw [lAT hx1];rfl
 have yi:=xi.own (id:=H.length) (x:=BL ((List.replicate (w.length+1) false).set 0 true)) (by omega) (by omega)
 generalize (X.set H.length (BL ((List.replicate (w.length+1) false).set 0 true)))=Y at *
 clear x1 xi hx1 hxl X
 refine z1M ?_
 refine z0H vs.length (fun i al H'=>∃ eb,al=[(0,.ptr aid 0),(2,.str w),(7,.sl eb 0 (w.length+1) 1),(20,kv),(21,.int .i64 vs.length),(22,.int .i64 i)]∧z0m D mid H H'∧H.length≤eb∧H'[eb]? =some (BL (z3A (fs.take i) w (z9W w.length)))) ⟨_,rfl,yi,lAL _,y1⟩ ?_
 clear y1 yi Y
 rintro i _ V hi ⟨eb,rfl,vi,heb,v1⟩
 have e1:decide ((i:Int)<(vs.length:Int))=decide (i<vs.length):=by simp only [lAP];omega
 refine z1M ?_
 rw [e1]
 cases hc:decide (i<vs.length)
 ·simp only [lAC] at hc
  have:fs.take i=fs:=lAQ (by omega)
  rw [this] at v1
  refine z1M ?_
  refine z3p rfl v1 (z3W (by rw [z5U _ _ _ (by simp [z9W])];omega)) ?_
  refine z1M ?_
  exact z0W rfl ⟨rfl,vi⟩
 simp only [lAE] at hc
 obtain ⟨v,hv⟩:=z0M (l:=vs) (i:=i) hc
 obtain ⟨f,hfi⟩:=z0M (l:=fs) (i:=i) (by omega)
 have hav:=hf i v f hv hfi
 have hvc:=hv1 v (lAF hv)
 have htk:z3A (fs.take (i+1)) w (z9W w.length)=zHV f w (z3A (fs.take i) w (z9W w.length)):=by
  rw [lA1,hfi]
  exact z7s _ _ _ _
 have hle:=z5U w (fs.take i) (z9W w.length) (by simp [z9W])
 have hEl:(z9W w.length).length=w.length+1:=by simp [z9W]
 generalize hE:z3A (fs.take i) w (z9W w.length)=E at *
 clear hEl
 refine z1M ?_
 rw [hvc]
 refine z1M ?_
 refine z9F rfl (by omega) ?_
 have x1:(V++[BL (List.replicate (w.length+1) false)])[V.length]? =some (BL (z4m f w E 0)):=z0E
 have x0:=z0G (G:=[BL (List.replicate (w.length+1) false)]) v1
 have xi:=vi.app [BL (List.replicate (w.length+1) false)]
 have hVl:=vi.len
 have hne:V.length≠eb:=by
  have:=(lAA.1 v1).1
  omega
 generalize (V++[BL (List.replicate (w.length+1) false)]:z0B)=X at *
 generalize V.length=nb at *
 clear v1 vi V
 refine z1M ?_
 refine z0H (w.length+1) (fun q al H'=>al=[(0,.ptr aid 0),(2,.str w),(9,v),(10,.sl nb 0 (w.length+1) 1),(20,kv),(21,.int .i64 vs.length),(22,.int .i64 i),(30,.sl eb 0 (w.length+1) 1),(31,.int .i64 (w.length+1:Nat)),(32,.int .i64 q)]∧z0m D mid H H'∧H'[eb]? =some (BL E)∧H'[nb]? =some (BL (z4m f w E q))) ⟨rfl,xi,x0,x1⟩ ?_
 clear x0 x1 xi X
 rintro q _ V hq ⟨rfl,vi,v0,v1⟩
 have e2:decide ((q:Int)<((w.length+1:Nat):Int))=decide (q<w.length+1):=by simp only [lAP];omega
 refine z1M ?_
 rw [e2]
 cases hc2:decide (q<w.length+1)
 ·simp only [lAC] at hc2
  obtain rfl:q=w.length+1:=by omega
  refine z1M ?_
  exact ⟨hc,nb,rfl,vi,hVl,by rw [htk];exact v1⟩
 simp only [lAE] at hc2
 have hgq:=z3W (l:=E) (k:=q) (by omega)
 have hl:=z8e f w E q
 have hLs:z4m f w E (q+1)=zDq f w (E.getD q false) q q (z4m f w E q):=rfl
 generalize z4m f w E q=L at *
 generalize E.getD q false=is at *
 refine z1M ?_
 refine z3p rfl v0 hgq ?_
 refine z1M ?_
 refine z0H (w.length+1) (fun j al H'=>al=[(0,.ptr aid 0),(2,.str w),(9,v),(10,.sl nb 0 (w.length+1) 1),(11,.int .i64 q),(12,.bool is),(13,.int .i64 (q+j:Nat)),(20,kv),(21,.int .i64 vs.length),(22,.int .i64 i),(30,.sl eb 0 (w.length+1) 1),(31,.int .i64 (w.length+1:Nat)),(32,.int .i64 q)]∧z0m D mid H H'∧H'[eb]? =some (BL E)∧H'[nb]? =some (BL (z6t f w is q q L (q+j)))) ⟨rfl,vi,v0,by rw [zDr (by omega)];exact v1⟩ ?_
 clear v0 v1 vi V
 rintro j _ V hj ⟨rfl,vi,v0,v1⟩
 have hVl2:=vi.len
 have hl2:(z6t f w is q q L (q+j)).length=w.length+1:=by rw [z8W,hl]
 have hend:is=false∨w.length<q+j→z6t f w is q q L (q+j)=z4m f w E (q+1):=by
  intro h
  rw [hLs]
  rcases h with h | h
  ·rw [h,zDp]
   apply lCH
   intro k
   cases hk:L[k]? with
   | none=>simp [z6t,hk]
   | some b=>rw [z2q hk];simp
  ·exact zAQ (by omega)
 generalize hR:z6t f w is q q L (q+j)=R at *
 have e3:decide (((q+j:Nat):Int)≤(w.length:Int))=decide (q+j≤w.length):=by simp only [lAP];omega
 cases is
 ·have:=hend (.inl rfl)
  refine z1M ?_
  exact ⟨by omega,rfl,vi,v0,by rw [←this];exact v1⟩
 refine z1M ?_
 rw [e3]
 cases hk:decide (q+j≤w.length)
 ·simp only [lAC] at hk
  have:=hend (.inr (by omega))
  refine z1M ?_
  exact ⟨by omega,rfl,vi,v0,by rw [←this];exact v1⟩
 simp only [lAE] at hk
 have hat:=zDs (f:=f) (w:=w) (is:=true) (lo:=q) (i:=q) (l:=L) (m:=q+j) (by omega)
 have hst:=z8V (f:=f) (w:=w) (lo:=q) (i:=q) (l:=L) (m:=q+j) (by omega) (by omega)
 rw [hR] at hat hst
 refine z1M ?_
 refine z3p rfl v1 hat ?_
 cases hb:L.getD (q+j) false
 ·rw [hb,lCP] at hst
  refine z1M ?_
  refine z5e rfl rfl (z5V (by omega) hk) ?_
  refine z6M rfl ?_
  refine z0L rfl (hav V (sub w q (q+j)) (by unfold sub;simp;omega) (ha.to vi)) ?_ ?_
  ·rintro u V' ⟨hu,hin⟩
   cases hu
   have v2:=hin.old (by omega) v1
   have v3:=hin.old (by omega) v0
   have vi2:=vi.trans hin
   refine z1M ?_
   refine z3n rfl rfl v2 (by omega) ?_
   refine z1M ?_
   refine ⟨by omega,rfl,vi2.own (by omega) (by omega),?_,?_⟩
   ·rw [lCS hne];exact v3
   ·rw [lAT (lAA.1 v2).1,hst];rfl
  ·rintro u V' ⟨hu,_⟩
   cases hu
 ·rw [hb,lED] at hst
  refine z1M ?_
  refine z3n rfl rfl v1 (by omega) ?_
  refine z1M ?_
  refine ⟨by omega,rfl,vi.own (by omega) (by omega),?_,?_⟩
  ·rw [lCS hne];exact v0
  ·rw [lAT (lAA.1 v1).1,hst];rfl
section
variable {D:Nat→Bt→Bool} {aid mid:Nat} {H:z0B}
theorem zHd:hasBody PP 202=true:=by kernel_rfl
theorem y0k:hasBody PP 205=true:=by kernel_rfl
theorem a263 {kv:AV} {vs caps:List AV} {bs:List Bool} {g:FuncId} (hk:Sl 1 kv vs) (hv1:∀ v∈vs,v.cells=[v]) (hlen:vs.length=bs.length) (hn:vs.length≤1000000) (hb:hasBody PP g=true) (ha:z0m D mid H H)
  (hcl:∀ (H':z0B) (i:Nat) (v:AV) (b:Bool),z0m D mid H H'→vs[i]? =some v→bs[i]? =some b→z0C PP g (v::caps) H' (z2A D mid H' b)) :
  z0C PP 224 [kv,.clo (.func g) [] caps] H (fun r H'=>(∃ n:Int,r=.ret (.int .i64 n)∧decide (n≥0)=bs.any id)∧z0m D mid H H'):=by
 refine zUk.c2 z0P mixed rfl ?_
 rw [lAJ]
 refine z0A ?_
 refine z0H vs.length (fun i al H'=>al=[(0,kv),(1,.clo (.func g) [] caps),(7,.int .i64 vs.length),(8,.int .i64 i)]∧z0m D mid H H'∧(bs.take i).any id=false) ⟨rfl,ha,by simp⟩ ?_
 rintro i _ V hi ⟨rfl,vi,v1⟩
 have e1:decide ((i:Int)<(vs.length:Int))=decide (i<vs.length):=by simp only [lAP];omega
 refine z0A ?_
 rw [e1]
 cases hc:decide (i<vs.length)
 ·simp only [lAC] at hc
  have:bs.take i=bs:=lAQ (by omega)
  rw [this] at v1
  refine z0A ?_
  exact z0W rfl ⟨⟨-1,rfl,by rw [v1];rfl⟩,vi⟩
 simp only [lAE] at hc
 obtain ⟨v,hv⟩:=z0M (l:=vs) (i:=i) hc
 obtain ⟨b,hbi⟩:=z0M (l:=bs) (i:=i) (by omega)
 have hvc:=hv1 v (lAF hv)
 have k:=hcl V i v b vi hv hbi
 refine z0A ?_
 rw [hvc]
 refine z0A ?_
 refine z3H rfl hb k ?_ ?_
 rotate_left
 ·rintro u V' ⟨hu,_⟩
  cases hu
 rintro u V' ⟨hu,hin⟩
 cases hu
 have vi2:=vi.trans hin
 cases b
 ·refine z0A ?_
  refine ⟨by omega,rfl,vi2,?_⟩
  rw [lA1,lDJ,v1,hbi];rfl
 ·refine z0A ?_
  refine z0W rfl ⟨⟨i,rfl,?_⟩,vi2⟩
  have:bs.any id=true:=lA0.2 ⟨true,lAF hbi,rfl⟩
  rw [this,lAE];omega
theorem a241 {kv:AV} {vs caps:List AV} {bs:List Bool} {g:FuncId} (hk:Sl 1 kv vs) (hv1:∀ v∈vs,v.cells=[v]) (hlen:vs.length=bs.length) (hn:vs.length≤1000000) (hb:hasBody PP g=true) (ha:z0m D mid H H)
  (hcl:∀ (H':z0B) (i:Nat) (v:AV) (b:Bool),z0m D mid H H'→vs[i]? =some v→bs[i]? =some b→z0C PP g (v::caps) H' (z2A D mid H' b)) :
  z0C PP 204 [kv,.clo (.func g) [] caps] H (z2A D mid H (bs.any id)):=by
 refine zUs.c2 z0P mixed rfl ?_
 rw [lAJ]
 refine z0A ?_
 refine z0L rfl (a263 hk hv1 hlen hn hb ha hcl) ?_ ?_
 rotate_left
 ·rintro u V' ⟨⟨n,hu,_⟩,_⟩
  cases hu
 rintro u V' ⟨⟨n,hu,hnb⟩,hin⟩
 cases hu
 refine z0A ?_
 exact z0W rfl ⟨by rw [←hnb];rfl,hin⟩
theorem a239 {v:AV} {f:Bt→Bool} {w:Bt} {ba bw:Nat} (hf:zJA D aid mid v f) (hw:w.length≤1000000) (ha:AskAt D aid mid H) (h1:H[ba]? =some (.cells [.ptr aid 0])) (h2:H[bw]? =some (.cells [.str w])) :
  z0C PP 202 [v,.ptr ba 0,.ptr bw 0] H (z2A D mid H (f w)):=by
 refine zUu.c3 z0P mixed rfl ?_
 rw [lAJ]
 refine z0A ?_
 refine z0L rfl (hf H w hw ha) ?_ ?_
 rotate_left
 ·rintro u V' ⟨hu,_⟩
  cases hu
 rintro u V' ⟨hu,hin⟩
 cases hu
 refine z0A ?_
 exact z0W rfl ⟨rfl,hin⟩
theorem a242 {v:AV} {caps:List AV} {b:Bool} {bo:Nat} (h1:H[bo]? =some (.cells [.clo (.func 202) [] caps])) (hc:z0C PP 202 (v::caps) H (z2A D mid H b)) :
  z0C PP 205 [v,.ptr bo 0] H (z2A D mid H (!b)):=by
 refine zUr.c2 z0P mixed rfl ?_
 rw [lAJ]
 refine z0A ?_
 refine z3H rfl zHd hc ?_ ?_
 rotate_left
 ·rintro u V' ⟨hu,_⟩
  cases hu
 rintro u V' ⟨hu,hin⟩
 cases hu
 refine z0A ?_
 exact z0W rfl ⟨rfl,hin⟩
end
end Go.Ab
