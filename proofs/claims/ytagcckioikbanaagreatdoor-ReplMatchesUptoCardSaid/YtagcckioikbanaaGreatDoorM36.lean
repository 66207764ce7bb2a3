/- Part 36 of the proof. -/
import Derived.Test.YtagcckioikbanaaGreatDoorM22
import Derived.Test.YtagcckioikbanaaGreatDoorM25
import Derived.Test.YtagcckioikbanaaGreatDoorM27
import Derived.Test.YtagcckioikbanaaGreatDoorM31
import Derived.Test.YtagcckioikbanaaGreatDoorM33
set_option linter.unusedVariables false
set_option linter.unusedSimpArgs false
namespace Go.Ab
open Go
set_option maxRecDepth 100000
set_option maxHeartbeats 8000000
section steps
variable {P:Program} {H G:z0B} {al:AL} {K:KL} {Qp:AL→AV→z0B→Prop} {os:List IOper} {d:Nat} {x y z:Arg}
theorem zLF {id o:Nat} (hx:evL al x=.ptr id o) (h:VV P os ((d,.ptr id o)::al) H K Qp):VV P (⟨some d,.i (.d .nilCheck),[x],none,none⟩::os) al H K Qp :=
 z2S (v:=.ptr id o) (by simp only [z0u,hx,z1W]) h
theorem zAA {s:Bt} {i:Nat} (hx:evL al x=.str s) (hy:evL al y=.int .i64 i) (hi:i≤s.length) (h:VV P os ((d,.str (s.drop i))::al) H K Qp) :
  VV P (⟨some d,.i (.d (.sliceStr true false)),[x,y],none,none⟩::os) al H K Qp:=by
 refine z7Z (a:=i) (b:=s.length) hx (zJA hy zMg) ?_ ?_
 ·simp only [z2f];rw [if_pos ⟨by omega,by omega⟩];simp
 ·rw [lAS (by simp)];exact h
theorem zFv {s:Bt} {i:Nat} (hx:evL al x=.str s) (hy:evL al y=.int .i64 i) (hi:i≤s.length) (h:VV P os ((d,.str (s.take i))::al) H K Qp) :
  VV P (⟨some d,.i (.d (.sliceStr false true)),[x,y],none,none⟩::os) al H K Qp:=by
 refine z7Z (a:=0) (b:=i) hx (zJA hy zMg) ?_ ?_
 ·simp only [z2f];rw [if_pos ⟨by omega,by omega⟩];simp
 ·simpa using h
end steps
theorem z0z {g n:Prop} (k:n) (h:Hide n→g:=by (intro k);(repeat (first | ((with_reducible apply z7c);focus (first | exact z2k | (apply z2j;(repeat (first | exact z0S | (apply z0P;focus exact rfl) | exact lk_nil))))) | ((with_reducible apply zLF);exact rfl) | ((with_reducible apply st_iface);exact rfl) | ((with_reducible apply zAA);exact rfl;exact rfl;(focus omega)) | ((with_reducible apply zFv);exact rfl;exact rfl;(focus omega)) | ((with_reducible apply zAG)) | ((with_reducible apply zAB);exact rfl;(focus assumption)) | ((with_reducible apply st_mkfB);exact rfl) | ((with_reducible apply zCh);exact rfl;exact rfl;(focus ((try simp only [lAH,lBE,lDW]);omega))) | ((with_reducible apply z8W);(focus (first | exact z2k | (apply z2j;(repeat (first | exact z0S | (apply z0P;focus exact rfl) | exact lk_nil)))));(focus assumption);exact rfl;(focus assumption)) | ((with_reducible apply z8V);(focus (first | exact z2k | (apply z2j;(repeat (first | exact z0S | (apply z0P;focus exact rfl) | exact lk_nil)))));(focus assumption);exact rfl;(focus assumption)) | ((with_reducible apply z4c);exact rfl;exact rfl) | ((with_reducible apply z4d);exact rfl) | ((with_reducible apply zBd);exact rfl;exact rfl) | ((with_reducible apply zBn);exact rfl;exact rfl) | ((with_reducible apply st_field);exact rfl;exact rfl) | ((with_reducible apply z3b);exact rfl;exact rfl) | ((with_reducible apply zBj);exact rfl;exact rfl) | ((with_reducible apply zBe);exact rfl;exact rfl) | ((with_reducible apply zBk);exact rfl;exact rfl) | ((with_reducible apply zBb);exact rfl;exact rfl) | ((with_reducible apply zBm);exact rfl;exact rfl) | ((with_reducible apply zBa);exact rfl;exact rfl) | ((with_reducible apply zBc);exact rfl;exact rfl) | ((with_reducible apply zBh);exact rfl;exact rfl) | ((with_reducible apply zBY);exact rfl) | ((with_reducible apply z4g);exact rfl;exact rfl) | ((with_reducible apply z2J);exact rfl;exact rfl) | ((with_reducible apply zBf);(focus (first | exact z2k | (apply z2j;(repeat (first | exact z0S | (apply z0P;focus exact rfl) | exact lk_nil)))));(focus assumption)) | ((with_reducible apply z8v);(focus (first | exact z2k | (apply z2j;(repeat (first | exact z0S | (apply z0P;focus exact rfl) | exact lk_nil)))));(focus assumption);exact rfl;(focus assumption)) | ((with_reducible apply z4e);exact rfl;exact rfl;(focus assumption)) | ((with_reducible apply z1k);exact rfl;exact rfl;exact rfl;exact rfl;exact rfl;(focus (first | exact rfl | exact z7R));exact rfl) | ((with_reducible apply z4b);exact rfl;exact rfl;exact rfl) | ((with_reducible apply z6L);exact rfl;(focus (first | assumption | exact z0G (by assumption)));exact rfl) | ((with_reducible apply z5F);exact rfl;exact rfl) | ((with_reducible apply z3H);exact rfl;(focus (first | exact z2k | (apply z2j;(repeat (first | exact z0S | (apply z0P;focus exact rfl) | exact lk_nil)))));exact rfl;exact rfl;exact rfl;exact rfl) | ((with_reducible apply z5E);exact rfl;exact rfl;exact rfl) | ((with_reducible apply z2a);exact rfl;(focus (first | assumption | exact z0G (by assumption)));exact rfl) | ((with_reducible apply zAD);(focus (first | exact z2k | (apply z2j;(repeat (first | exact z0S | (apply z0P;focus exact rfl) | exact lk_nil)))));exact rfl;exact rfl;exact rfl) | ((with_reducible apply z4f);exact rfl) | ((with_reducible apply z6M);exact rfl) | ((with_reducible apply z3C);exact rfl;exact rfl;(focus (first | decide | omega))) | ((with_reducible apply zBg);exact rfl;(focus omega)) | ((with_reducible apply zAC);focus (repeat (first | exact z5u | ((with_reducible apply kp);focus (repeat (first | exact z0S | (apply z0P;focus exact rfl) | exact lk_nil)))))) | ((with_reducible apply zKs);focus (repeat (first | exact z5u | ((with_reducible apply kp);focus (repeat (first | exact z0S | (apply z0P;focus exact rfl) | exact lk_nil)))))) | ((with_reducible apply zXm);exact rfl;exact rfl) | ((with_reducible apply zXn);exact rfl;exact rfl;(focus exact lAL _)) | ((with_reducible apply zFz)) | (with_reducible apply zFy) | ((with_reducible apply z7a);(focus (first | exact rfl | exact congrArg AV.bool (by assumption)));(focus (first | exact z2k | (apply z2j;(repeat (first | exact z0S | (apply z0P;focus exact rfl) | exact lk_nil)))))) | ((with_reducible apply z7b);(focus (first | exact rfl | exact congrArg AV.bool (by assumption)));(focus (first | exact z2k | (apply z2j;(repeat (first | exact z0S | (apply z0P;focus exact rfl) | exact lk_nil)))))) | ((with_reducible apply z5h);(focus (first | exact rfl | exact congrArg AV.bool (by assumption)))) | ((with_reducible apply zDw);(focus (first | exact rfl | exact congrArg AV.bool (by assumption)))) | ((with_reducible apply zDx);(focus (first | exact rfl | exact congrArg AV.bool (by assumption)))) | ((with_reducible apply zBZ);exact rfl) | with_reducible refine z1e ?_ | with_reducible refine z0c ?_ | with_reducible refine zHb ?_ | with_reducible refine z7J ?_ | with_reducible refine z7z ?_ | with_reducible refine zFD ?_ | with_reducible refine zAf ?_ | with_reducible refine zTH ?_ | with_reducible refine zTJ ?_ | with_reducible refine zXR ?_ | with_reducible refine zXQ ?_ | with_reducible refine zXP ?_ | with_reducible refine bk_y rfl ?_ | ((with_reducible apply zFC);(focus (first | exact rfl | exact congrArg AV.bool (by assumption)))) | ((with_reducible apply zGX);(focus (first | exact rfl | exact congrArg AV.bool (by assumption)))) | refine z1e ?_ | refine z9a rfl rfl ?_ | with_reducible refine zHs ?_));(exact k.h)):g:=h ⟨k⟩
section steps
variable {P:Program} {H G:z0B} {al:AL} {K:KL} {Qp:AL→AV→z0B→Prop} {os:List IOper} {d:Nat} {x y z:Arg}
theorem zAG {zs:List AV} (h:VV P os ((d,.ptr H.length 0)::al) (H++[.cells zs]) K Qp):VV P (⟨some d,.i (.m (.alloc zs)),[],none,none⟩::os) al H K Qp:=by
 refine z8X ?_ h
 show some (AV.ptr H.length 0,put H H.length (.cells zs))=_
 unfold put;rw [if_neg (by omega)]
theorem zAB {id:Nat} {a b c:AV} (hx:evL al x=.ptr id 0) (hg:H[id]? =some (.cells [a,b,c])) (h:VV P os ((d,.agg [a,b,c])::al) H K Qp):VV P (⟨some d,.i (.m (.load (some 3))),[x],none,none⟩::os) al H K Qp :=
 z2a hx hg rfl h
end steps
abbrev zGe (l:List Ex):List AV:=z0j (l.map enc)
theorem zFP (l m:List Ex):zGe (l++m)=zGe l++zGe m:=by simp [z0j]
theorem zAn (op:Int) (s:Bt) (nl:Bool) (l:List Ex):zGe [.mk op s nl l]=[.int .i64 op,.str s,lst nl l]:=by
 show (enc _).cells++[]=_
 rw [z0a];rfl
section steps
variable {H:z0B} {al:AL} {K:KL} {Qp:AL→AV→z0B→Prop} {os:List IOper} {d:Nat} {x y z:Arg}
theorem z1a {c:Blk} {k:Nat} {zs ws:List AV} (hc:c=.cells zs) (hx:evL al x=.ptr H.length 0) (hy:evL al y=.agg ws) (hw:ws.length=k) (hl:zs.length=k) (hs:ws.all AV.scalar=true)
  (h:VV PP os al (H++[.cells ws]) K Qp):VV PP (⟨none,.i (.m (.store k)),[x,y],none,none⟩::os) al (H++[c]) K Qp:=by
 subst hc
 refine z0k (.agg ws) hx hy (cs:=zs) (cs':=ws) (by rw [lAJ (lAL _),lBJ];rfl) (by simp [AV.shaped,AV.cells,hw,hl];simpa using hs) (zEF (by simp [AV.cells,hw,hl])) (by simp) h
theorem zDE {c:Blk}:(H++[c])[H.length]? =some c:=by rw [lAJ (lAL _),lBJ];rfl
end steps
def zXV (D:Nat→Bt→Bool) (es:z3t):Prop:=∀ e∈es,∃ (k:Nat) (w:Bt) (t:Nat),e=(.agg [.int .i64 k,.str w],.bool (D k w),t)
def z0n (D:Nat→Bt→Bool) (mid:Nat) (H H':z0B):Prop:=∃ es c,zXV D es∧Mod H mid (.map es c) H'
structure AskAt (D:Nat→Bt→Bool) (aid mid:Nat) (H:z0B):Prop where
 at_:∃ n:Int,H[aid]? =some (.cells [.map mid,.int .i64 n])
 ne:aid≠mid
 inn:z0n D mid H H
def z1r (D:Nat→Bt→Bool) (mid:Nat) (H:z0B) (b:Bool):z2U:=fun r H'=>r=.ret (.bool b)∧z0n D mid H H'
section ask
variable {D:Nat→Bt→Bool} {aid mid:Nat} {H H' H'':z0B}
theorem z0n.trans (h:z0n D mid H H') (k:z0n D mid H' H''):z0n D mid H H'':=by
 obtain ⟨_,_,_,m⟩:=h
 obtain ⟨es,c,v,m'⟩:=k
 exact ⟨es,c,v,m.trans m'⟩
theorem z0n.app (h:z0n D mid H H') (G:z0B):z0n D mid H (H'++G):=by
 obtain ⟨es,c,v,m⟩:=h
 exact ⟨es,c,v,m.app G⟩
theorem z0n.lt (h:z0n D mid H H'):mid<H'.length:=by
 obtain ⟨es,c,v,m⟩:=h
 exact m.lt
theorem z0n.own {id:Nat} {x:Blk} (h:z0n D mid H H') (h1:H.length≤id) (h2:id≠mid):z0n D mid H (H'.set id x):=by
 obtain ⟨es,c,v,m⟩:=h
 exact ⟨es,c,v,m.own h1 h2⟩
theorem z0n.old {id:Nat} {x:Blk} (h:z0n D mid H H') (h1:id≠mid) (h2:H[id]? =some x):H'[id]? =some x:=by
 obtain ⟨es,c,v,m⟩:=h
 exact m.old id x h1 h2
theorem z0n.len (h:z0n D mid H H'):H.length≤H'.length:=by
 obtain ⟨es,c,v,m⟩:=h
 exact m.len
theorem z0n.mod (h:z0n D mid H H'):∃ b,Mod H mid b H':=by
 obtain ⟨es,c,v,m⟩:=h
 exact ⟨_,m⟩
theorem z0n.self (h:z0n D mid H H'):z0n D mid H' H':=by
 obtain ⟨es,c,v,m⟩:=h
 exact ⟨es,c,v,Mod.refl m.get⟩
theorem AskAt.to (h:AskAt D aid mid H) (k:z0n D mid H H'):AskAt D aid mid H':=by
 obtain ⟨n,hn⟩:=h.at_
 exact ⟨⟨n,k.old h.ne hn⟩,h.ne,k.self⟩
theorem AskAt.app (h:AskAt D aid mid H) (G:z0B):AskAt D aid mid (H++G):=h.to (h.inn.app G)
theorem AskAt.lt (h:AskAt D aid mid H):aid<H.length:=by
 obtain ⟨n,hn⟩:=h.at_
 exact (lAA.1 hn).1
theorem AskAt.mlt (h:AskAt D aid mid H):mid<H.length:=h.inn.lt
end ask
theorem z0K {H:z0B} {c:Blk}:(H++[c])[H.length]? =some c:=by rw [lAJ (lAL _),lBJ];rfl
def BL (l:List Bool):Blk:=.cells (l.map .bool)
section rows
variable {P:Program} {H:z0B} {al:AL} {K:KL} {Qp:AL→AV→z0B→Prop} {os:List IOper} {d:Nat} {x y z:Arg}
theorem z8U {n:Nat} (hx:evL al x=.int .i64 n) (hn:n≤1000000000) (h:VV P os ((d,.sl H.length 0 n 1)::al) (H++[BL (List.replicate n false)]) K Qp) :
  VV P (⟨some d,.i (.m (.makeSlice 1 1 [.bool false])),[x,x],none,none⟩::os) al H K Qp:=by
 refine z8X ?_ h
 have e:z1J n [AV.bool false]=(List.replicate n false).map .bool:=by
  clear hn hx h
  induction n with
  | zero=>rfl
  | succ n ih =>
   have:z1J (n+1) [AV.bool false]=AV.bool false::z1J n [AV.bool false]:=rfl
   rw [this,ih,lD3,lA6]
 simp only [z5a,z6m,z0u,hx]
 rw [if_pos ⟨by omega,by omega,by omega,by omega⟩]
 unfold put;rw [if_neg (by omega),lDX,e];rfl
theorem z3S {id k:Nat} {l:List Bool} {b:Bool} (hx:evL al x=.ptr id (0+k*1)) (hg:H[id]? =some (BL l)) (hb:l[k]? =some b) (h:VV P os ((d,.bool b)::al) H K Qp) :
  VV P (⟨some d,.i (.m (.load none)),[x],none,none⟩::os) al H K Qp:=by
 refine z2a hx hg ?_ h
 show (l.map AV.bool)[0+k*1]? =_
 rw [lBN,lCA,lAM,hb];rfl
theorem z3R {id k:Nat} {l:List Bool} {b:Bool} (hx:evL al x=.ptr id (0+k*1)) (hy:evL al y=.bool b) (hg:H[id]? =some (BL l)) (hk:k<l.length) (h:VV P os al (H.set id (BL (l.set k b))) K Qp) :
  VV P (⟨none,.i (.m (.store 1)),[x,y],none,none⟩::os) al H K Qp:=by
 refine z0k (.bool b) hx hy hg ?_ ?_ rfl h
 ·simp [AV.shaped,AV.cells,AV.scalar];omega
 ·show z4m (l.map AV.bool) (0+k*1) [.bool b]=(l.set k b).map AV.bool
  rw [lBN,lCA,List.map_set]
  unfold z4m
  rw [lDB,if_pos (by simpa using hk)]
  simp
end rows
def z6Q {α:Type} (f:List α→Bool) (w:List α) (is:Bool) (lo i:Nat) (l:List Bool) (m:Nat):List Bool:=l.mapIdx fun k b=>b||(is&&decide (lo≤k)&&decide (k<m)&&f (sub w i k))
section rowp
variable {α:Type} {f:List α→Bool} {w:List α} {is:Bool} {lo i m:Nat} {l:List Bool}
theorem z7j:(z6Q f w is lo i l m).length=l.length:=by simp [z6Q]
theorem zHU:(zCs f w is lo i l).length=l.length:=by simp [zCs]
theorem z2Z {k:Nat} {b:Bool} (h:l[k]? =some b):(z6Q f w is lo i l m)[k]? =some (b||(is&&decide (lo≤k)&&decide (k<m)&&f (sub w i k))):=by
 simp only [z6Q,List.getElem?_mapIdx,h,lBH]
theorem zCt (h:m≤lo):z6Q f w is lo i l m=l:=by
 apply lCD
 intro k
 cases hk:l[k]? with
 | none=>simp [z6Q,hk]
 | some b =>
  rw [z2Z hk]
  have:(decide (lo≤k)&&decide (k<m))=false:=by
   by_cases h1:lo≤k
   ·have:¬ k<m:=by omega
    simp [this]
   ·simp [h1]
  rw [Bool.and_assoc is,this];simp
theorem zCr:zCs f w false lo i l=l:=by
 apply lCD
 intro k
 cases hk:l[k]? with
 | none=>simp [zCs,hk]
 | some b=>simp [zCs,hk]
theorem z9V (h:l.length≤m):z6Q f w is lo i l m=zCs f w is lo i l:=by
 apply lCD
 intro k
 cases hk:l[k]? with
 | none=>simp [z6Q,zCs,hk]
 | some b =>
  have h1:=(lAA.1 hk).1
  have:k<m:=by omega
  rw [z2Z hk]
  simp [zCs,hk,this]
theorem zCu (hm:m<l.length):(z6Q f w is lo i l m)[m]? =some (l.getD m false):=by
 have h:l[m]? =some (l.getD m false):=by rw [lAB,lAG hm];rfl
 rw [z2Z h]
 have:¬ m<m:=by omega
 simp [this]
theorem z7h (hm:m<l.length) (h:lo≤m):(z6Q f w true lo i l m).set m (l.getD m false||f (sub w i m))=z6Q f w true lo i l (m+1):=by
 apply lCD
 intro k
 rw [lA7]
 split
 ·rename_i e
  subst e
  rw [if_pos (by rw [z7j];exact hm)]
  have h':l[m]? =some (l.getD m false):=by rw [lAB,lAG hm];rfl
  rw [z2Z h']
  have:m<m+1:=by omega
  simp [h,this]
 ·rename_i e
  cases hk:l[k]? with
  | none=>simp [z6Q,hk]
  | some b =>
   rw [z2Z hk,z2Z hk]
   have:(k<m)=(k<m+1):=by apply propext;omega
   simp only [this]
end rowp
theorem z4a {α:Type} [BEq α] (f:List α→Bool) (w:List α):∀ i,(z3Q f w i).length=w.length+1
 | 0=>by simp [z3Q,z8h]
 | i+1=>by rw [z3Q,zHU,z4a f w i]
def zGx (D:Nat→Bt→Bool) (aid mid:Nat) (v:AV) (f:Bt→Bool):Prop:=∀ (H:z0B) (w:Bt),w.length≤1000000→AskAt D aid mid H→z0D PP 94 [.ptr aid 0,v,.str w] H (z1r D mid H (f w))
theorem z3D {l:List Bool} {k:Nat} (h:k<l.length):l[k]? =some (l.getD k false):=by rw [lAB,lAG h];rfl
theorem z8K {n i k:Nat} (h1:i≤k) (h2:k≤n):z2f n true true [.int .i64 i,.int .i64 k]=some (i,k):=by
 simp only [z2f]
 rw [if_pos ⟨by omega,by omega,by omega,by omega⟩]
 simp
theorem a243 {D:Nat→Bt→Bool} {aid mid:Nat} {v:AV} {f:Bt→Bool} {w:Bt} {H:z0B} (hf:zGx D aid mid v f) (hw:w.length≤1000000) (ha:AskAt D aid mid H):z0D PP 206 [.ptr aid 0,v,.str w] H (z1r D mid H (z4K f w)):=by
 refine zTp.c3 z0R mixed rfl ?_
 rw [lAK]
 have hml:=ha.mlt
 have hal:=ha.lt
 refine z0z ?_
 refine z8U rfl (by omega) ?_
 have x1:(H++[BL (List.replicate (w.length+1) false)])[H.length]? =some (BL (List.replicate (w.length+1) false)):=z0K
 have xi:=ha.inn.app [BL (List.replicate (w.length+1) false)]
 generalize (H++[BL (List.replicate (w.length+1) false)]:z0B)=X at *
 refine z0z ?_
 refine z3C (i:=0) rfl rfl (by omega) ?_
 refine z3R rfl rfl x1 (by simp) ?_
 have hxl:=xi.len
 have hx1:=(lAA.1 x1).1
 have y1:(X.set H.length (BL ((List.replicate (w.length+1) false).set 0 true)))[H.length]? =some (BL (z3Q f w 0)):=by
  rw [lAU hx1];rfl
 have yi:=xi.own (id:=H.length) (x:=BL ((List.replicate (w.length+1) false).set 0 true)) (by omega) (by omega)
 generalize (X.set H.length (BL ((List.replicate (w.length+1) false).set 0 true)))=Y at *
 have hnl:H.length≠mid:=by omega
 clear x1 xi hx1 hxl X
 refine z0z ?_
 refine z0F w.length (fun i al H'=>al=[(0,.ptr aid 0),(1,v),(2,.str w),(7,.sl H.length 0 (w.length+1) 1),(17,.int .i64 w.length),(18,.int .i64 i)]∧z0n D mid H H'∧H'[H.length]? =some (BL (z3Q f w i))) ⟨rfl,yi,y1⟩ ?_
 clear y1 yi Y
 rintro i _ V hi ⟨rfl,vi,v1⟩
 have e1:decide ((i:Int)<(w.length:Int))=decide (i<w.length):=by simp only [lAP];omega
 refine z0z ?_
 rw [e1]
 cases hc:decide (i<w.length)
 ·simp only [lAC] at hc
  obtain rfl:i=w.length:=by omega
  refine z0z ?_
  refine z3S rfl v1 (z3D (by rw [z4a];omega)) ?_
  refine z0z ?_
  exact z0Y rfl ⟨rfl,vi⟩
 ·simp only [lAD] at hc
  have hl:=z4a f w i
  generalize hLs:z3Q f w i=L at *
  refine z0z ?_
  refine z0F (w.length+1) (fun j al H'=>al=[(0,.ptr aid 0),(1,v),(2,.str w),(7,.sl H.length 0 (w.length+1) 1),(8,.int .i64 i),(9,.int .i64 (i+1+j:Nat)),(17,.int .i64 w.length),(18,.int .i64 i)]∧z0n D mid H H'∧H'[H.length]? =some (BL (z6Q f w (L.getD i false) (i+1) i L (i+1+j)))) ⟨rfl,vi,by rw [zCt (by omega)];exact v1⟩ ?_
  clear v1 vi V
  rintro j _ V hj ⟨rfl,vi,v1⟩
  have hVl:=vi.len
  have hl2:(z6Q f w (L.getD i false) (i+1) i L (i+1+j)).length=w.length+1:=by rw [z7j,hl]
  have hi0:(z6Q f w (L.getD i false) (i+1) i L (i+1+j))[i]? =some (L.getD i false):=by
   rw [z2Z (z3D (by omega))]
   have:¬ i+1≤i:=by omega
   simp [this]
  have hend:i<w.length→L.getD i false=false∨w.length<i+1+j→z6Q f w (L.getD i false) (i+1) i L (i+1+j)=z3Q f w (i+1):=by
   intro hiw h
   rw [z3Q,hLs]
   rcases h with h | h
   ·rw [h,zCr]
    apply lCD
    intro k
    cases hk:L[k]? with
    | none=>simp [z6Q,hk]
    | some b=>rw [z2Z hk];simp
   ·exact z9V (by omega)
  generalize hR:z6Q f w (L.getD i false) (i+1) i L (i+1+j)=R at *
  refine z0z ?_
  refine z3S rfl v1 hi0 ?_
  have e2:decide (((i+1+j:Nat):Int)≤(w.length:Int))=decide (i+1+j≤w.length):=by simp only [lAP];omega
  cases his:L.getD i false
  ·rw [his] at hend
   have:=hend hc (.inl rfl)
   refine z0z ?_
   exact ⟨hc,rfl,vi,by rw [←this];exact v1⟩
  rw [his] at hR hend
  refine z0z ?_
  rw [e2]
  cases hk:decide (i+1+j≤w.length)
  ·simp only [lAC] at hk
   have:=hend hc (.inr (by omega))
   refine z0z ?_
   exact ⟨hc,rfl,vi,by rw [←this];exact v1⟩
  simp only [lAD] at hk
  have hat:=zCu (f:=f) (w:=w) (is:=true) (lo:=i+1) (i:=i) (l:=L) (m:=i+1+j) (by omega)
  have hst:=z7h (f:=f) (w:=w) (lo:=i+1) (i:=i) (l:=L) (m:=i+1+j) (by omega) (by omega)
  rw [hR] at hat hst
  refine z0z ?_
  refine z3S rfl v1 hat ?_
  cases hb:L.getD (i+1+j) false
  ·rw [hb,lCL] at hst
   refine z0z ?_
   refine z7Z rfl rfl (z8K (by omega) hk) ?_
   refine z5h rfl ?_
   refine z0L rfl (hf V (sub w i (i+1+j)) (by unfold sub;simp;omega) (ha.to vi)) ?_ ?_
   ·rintro u V' ⟨hu,hin⟩
    cases hu
    have v2:=hin.old hnl.symm.symm v1
    have vi2:=vi.trans hin
    refine z0z ?_
    refine z3R rfl rfl v2 (by omega) ?_
    refine z0z ?_
    refine ⟨by omega,rfl,vi2.own (by omega) (by omega),?_⟩
    rw [lAU (lAA.1 v2).1,hst];rfl
   ·rintro u V' ⟨hu,_⟩
    cases hu
  ·rw [hb,lD5] at hst
   refine z0z ?_
   refine z3R rfl rfl v1 (by omega) ?_
   refine z0z ?_
   refine ⟨by omega,rfl,vi.own (by omega) (by omega),?_⟩
   rw [lAU (lAA.1 v1).1,hst];rfl
theorem z3F {g:Nat→Bool} {i:Nat} (h:(List.range i).any g=false) (h2:g i=false):(List.range (i+1)).any g=false:=by
 rw [lCS,lDK,h];simp [h2]
theorem z4U {g:Nat→Bool} {i n:Nat} (h:i<n) (h2:g i=true):(List.range n).any g=true :=
 lA3.2 ⟨i,lAZ.2 h,h2⟩
theorem zNF {n i:Nat} (h1:i≤n):z2f n true false [.int .i64 i]=some (i,n):=by
 simp only [z2f]
 rw [if_pos ⟨by omega,by omega⟩]
 simp
theorem zNG {n i:Nat} (h1:i≤n):z2f n false true [.int .i64 i]=some (0,i):=by
 simp only [z2f]
 rw [if_pos ⟨by omega,by omega⟩]
 simp
theorem z9t {α:Type} (w:List α) (i:Nat):(w.drop i).take (w.length-i)=w.drop i:=lAS (by simp)
section
variable {D:Nat→Bt→Bool} {aid mid:Nat} {v:AV} {f:Bt→Bool} {w:Bt} {H:z0B}
theorem a63 (hf:zGx D aid mid v f) (hw:w.length≤1000000) (ha:AskAt D aid mid H):z0D PP 50 [.ptr aid 0,v,.str w] H (z1r D mid H (z2u f w)):=by
 refine is50.c3 z0R mixed rfl ?_
 rw [lAK]
 unfold z2u
 refine z0z ?_
 refine z0F (w.length+1) (fun i al H'=>al=[(0,.ptr aid 0),(1,v),(2,.str w),(10,.int .i64 (w.length+1:Nat)),(11,.int .i64 i)]∧z0n D mid H H'∧(List.range i).any (fun i=>f (w.drop i))=false) ⟨rfl,ha.inn,rfl⟩ ?_
 rintro i _ V hi ⟨rfl,vi,v1⟩
 have e1:decide ((i:Int)<((w.length+1:Nat):Int))=decide (i<w.length+1):=by simp only [lAP];omega
 refine z0z ?_
 rw [e1]
 cases hc:decide (i<w.length+1)
 ·simp only [lAC] at hc
  obtain rfl:i=w.length+1:=by omega
  refine z0z ?_
  exact z0Y rfl ⟨by rw [v1];rfl,vi⟩
 ·simp only [lAD] at hc
  refine z0z ?_
  refine z0L rfl (hf V (w.drop i) (by simp;omega) (ha.to vi)) ?_ ?_
  ·rintro u V' ⟨hu,hin⟩
   cases hu
   have vi2:=vi.trans hin
   cases hb:f (w.drop i)
   ·refine z0z ?_
    exact ⟨by omega,rfl,vi2,z3F v1 hb⟩
   ·refine z0z ?_
    exact z0Y rfl ⟨by rw [z4U (i:=i) hc hb];rfl,vi2⟩
  ·rintro u V' ⟨hu,_⟩
   cases hu
theorem a65 (hf:zGx D aid mid v f) (hw:w.length≤1000000) (ha:AskAt D aid mid H):z0D PP 52 [.ptr aid 0,v,.str w] H (z1r D mid H (z0g f w)):=by
 refine is52.c3 z0R mixed rfl ?_
 rw [lAK]
 unfold z0g
 refine z0z ?_
 refine z0F (w.length+1) (fun i al H'=>al=[(0,.ptr aid 0),(1,v),(2,.str w),(10,.int .i64 (w.length+1:Nat)),(11,.int .i64 i)]∧z0n D mid H H'∧(List.range i).any (fun i=>f (w.take i))=false) ⟨rfl,ha.inn,rfl⟩ ?_
 rintro i _ V hi ⟨rfl,vi,v1⟩
 have e1:decide ((i:Int)<((w.length+1:Nat):Int))=decide (i<w.length+1):=by simp only [lAP];omega
 refine z0z ?_
 rw [e1]
 cases hc:decide (i<w.length+1)
 ·simp only [lAC] at hc
  obtain rfl:i=w.length+1:=by omega
  refine z0z ?_
  exact z0Y rfl ⟨by rw [v1];rfl,vi⟩
 ·simp only [lAD] at hc
  refine z0z ?_
  refine z0L rfl (hf V (w.take i) (by simp;omega) (ha.to vi)) ?_ ?_
  ·rintro u V' ⟨hu,hin⟩
   cases hu
   have vi2:=vi.trans hin
   cases hb:f (w.take i)
   ·refine z0z ?_
    exact ⟨by omega,rfl,vi2,z3F v1 hb⟩
   ·refine z0z ?_
    exact z0Y rfl ⟨by rw [z4U (i:=i) hc hb];rfl,vi2⟩
  ·rintro u V' ⟨hu,_⟩
   cases hu
end
theorem z0A {g n:Prop} (k:n) (h:Hide n→g:=by (intro k);(repeat (first | ((with_reducible apply z7c);focus (first | exact z2k | (apply z2j;(repeat (first | exact z0S | (apply z0P;focus exact rfl) | exact lk_nil))))) | ((with_reducible apply zLF);exact rfl) | ((with_reducible apply st_iface);exact rfl) | ((with_reducible apply zAA);exact rfl;exact rfl;(focus omega)) | ((with_reducible apply zFv);exact rfl;exact rfl;(focus omega)) | ((with_reducible apply zAG)) | ((with_reducible apply zAB);exact rfl;(focus assumption)) | ((with_reducible apply st_mkfB);exact rfl) | ((with_reducible apply zLE);exact rfl) | ((with_reducible apply zCh);exact rfl;exact rfl;(focus ((try simp only [lAH,lBE,lDW]);omega))) | ((with_reducible apply z8W);(focus (first | exact z2k | (apply z2j;(repeat (first | exact z0S | (apply z0P;focus exact rfl) | exact lk_nil)))));(focus assumption);exact rfl;(focus assumption)) | ((with_reducible apply z8V);(focus (first | exact z2k | (apply z2j;(repeat (first | exact z0S | (apply z0P;focus exact rfl) | exact lk_nil)))));(focus assumption);exact rfl;(focus assumption)) | ((with_reducible apply z4c);exact rfl;exact rfl) | ((with_reducible apply z4d);exact rfl) | ((with_reducible apply zBd);exact rfl;exact rfl) | ((with_reducible apply zBn);exact rfl;exact rfl) | ((with_reducible apply st_field);exact rfl;exact rfl) | ((with_reducible apply z3b);exact rfl;exact rfl) | ((with_reducible apply zBj);exact rfl;exact rfl) | ((with_reducible apply zBe);exact rfl;exact rfl) | ((with_reducible apply zBk);exact rfl;exact rfl) | ((with_reducible apply zBb);exact rfl;exact rfl) | ((with_reducible apply zBm);exact rfl;exact rfl) | ((with_reducible apply zBa);exact rfl;exact rfl) | ((with_reducible apply zBc);exact rfl;exact rfl) | ((with_reducible apply zBh);exact rfl;exact rfl) | ((with_reducible apply zBY);exact rfl) | ((with_reducible apply z4g);exact rfl;exact rfl) | ((with_reducible apply z2J);exact rfl;exact rfl) | ((with_reducible apply zBf);(focus (first | exact z2k | (apply z2j;(repeat (first | exact z0S | (apply z0P;focus exact rfl) | exact lk_nil)))));(focus assumption)) | ((with_reducible apply z8v);(focus (first | exact z2k | (apply z2j;(repeat (first | exact z0S | (apply z0P;focus exact rfl) | exact lk_nil)))));(focus assumption);exact rfl;(focus assumption)) | ((with_reducible apply z4e);exact rfl;exact rfl;(focus assumption)) | ((with_reducible apply z1k);exact rfl;exact rfl;exact rfl;exact rfl;exact rfl;(focus (first | exact rfl | exact z7R));exact rfl) | ((with_reducible apply z4b);exact rfl;exact rfl;exact rfl) | ((with_reducible apply z6L);exact rfl;(focus (first | assumption | exact z0G (by assumption)));exact rfl) | ((with_reducible apply z5F);exact rfl;exact rfl) | ((with_reducible apply z3H);exact rfl;(focus (first | exact z2k | (apply z2j;(repeat (first | exact z0S | (apply z0P;focus exact rfl) | exact lk_nil)))));exact rfl;exact rfl;exact rfl;exact rfl) | ((with_reducible apply z5E);exact rfl;exact rfl;exact rfl) | ((with_reducible apply z2a);exact rfl;(focus (first | assumption | exact z0G (by assumption)));exact rfl) | ((with_reducible apply zAD);(focus (first | exact z2k | (apply z2j;(repeat (first | exact z0S | (apply z0P;focus exact rfl) | exact lk_nil)))));exact rfl;exact rfl;exact rfl) | ((with_reducible apply z4f);exact rfl) | ((with_reducible apply z6M);exact rfl) | ((with_reducible apply z3C);exact rfl;exact rfl;(focus (first | decide | omega))) | ((with_reducible apply zBg);exact rfl;(focus omega)) | ((with_reducible apply zAC);focus (repeat (first | exact z5u | ((with_reducible apply kp);focus (repeat (first | exact z0S | (apply z0P;focus exact rfl) | exact lk_nil)))))) | ((with_reducible apply z7a);(focus (first | exact rfl | exact congrArg AV.bool (by assumption)));(focus (first | exact z2k | (apply z2j;(repeat (first | exact z0S | (apply z0P;focus exact rfl) | exact lk_nil)))))) | ((with_reducible apply z7b);(focus (first | exact rfl | exact congrArg AV.bool (by assumption)));(focus (first | exact z2k | (apply z2j;(repeat (first | exact z0S | (apply z0P;focus exact rfl) | exact lk_nil)))))) | ((with_reducible apply z5h);(focus (first | exact rfl | exact congrArg AV.bool (by assumption)))) | ((with_reducible apply zDw);(focus (first | exact rfl | exact congrArg AV.bool (by assumption)))) | ((with_reducible apply zDx);(focus (first | exact rfl | exact congrArg AV.bool (by assumption)))) | ((with_reducible apply zBZ);exact rfl) | (with_reducible apply z6x) | ((with_reducible apply vx_q);exact rfl;exact rfl;(focus (first | exact zWz | exact zRy | (apply zWy;focus (apply zEg;(focus (first | exact z2k | (apply z2j;(repeat (first | exact z0S | (apply z0P;focus exact rfl) | exact lk_nil)))));(focus (first | exact trivial | exact z4C (by omega) | exact z2d (by simp))))) | (apply zRx;focus (apply zEg;(focus (first | exact z2k | (apply z2j;(repeat (first | exact z0S | (apply z0P;focus exact rfl) | exact lk_nil)))));(focus (first | exact trivial | exact z4C (by omega) | exact z2d (by simp)))))))) | ((with_reducible apply zKr);focus (repeat (first | exact z5u | ((with_reducible apply kp);focus (repeat (first | exact z0S | (apply z0P;focus exact rfl) | exact lk_nil)))))) | (with_reducible apply zCe) | ((with_reducible apply vz_d);exact rfl;exact rfl) | ((with_reducible apply vz_l);exact rfl;exact rfl;(focus (apply zEg;(focus (first | exact z2k | (apply z2j;(repeat (first | exact z0S | (apply z0P;focus exact rfl) | exact lk_nil)))));(focus (first | exact trivial | exact z4C (by omega) | exact z2d (by simp)))))) | with_reducible refine z1e ?_ | with_reducible refine z0c ?_ | with_reducible refine zHb ?_ | with_reducible refine z7J ?_ | with_reducible refine z7z ?_ | with_reducible refine zFD ?_ | with_reducible refine zAf ?_ | with_reducible refine zTH ?_ | with_reducible refine zTJ ?_ | with_reducible refine zXR ?_ | with_reducible refine zXQ ?_ | with_reducible refine zXP ?_ | with_reducible refine bk_y rfl ?_ | ((with_reducible apply zFC);(focus (first | exact rfl | exact congrArg AV.bool (by assumption)))) | ((with_reducible apply zGX);(focus (first | exact rfl | exact congrArg AV.bool (by assumption)))) | refine z1e ?_ | refine z9a rfl rfl ?_));(exact k.h)):g:=h ⟨k⟩
abbrev KQ:KT:=⟨true,[.int,.str]⟩
theorem keyQ (k k':Nat) (w w':Bt):z5Y KQ (.agg [.int .i64 k,.str w]) (.agg [.int .i64 k',.str w'])=some (decide (k=k')&&(w==w')):=by
 have e:((k:Int)==(k':Int))=decide (k=k'):=by
  by_cases h:k=k'
  ·subst h;simp
  ·have:(k:Int)≠(k':Int):=by omega
   simp [h,this]
 simp only [z5Y,if_true]
 rw [if_pos ⟨rfl,rfl⟩]
 simp only [z1F,zPD,if_true,e]
 cases decide (k=k')<;>cases (w==w')<;>rfl
theorem zNQ {D:Nat→Bt→Bool} {k:Nat} {w:Bt}:∀ {es:z3t} (i:Nat),zXV D es→∃ r,z3B KQ (.agg [.int .i64 k,.str w]) es i=some r∧∀ j,r=some j→i≤j∧(es.getD (j-i) (.top,.top,0)).2.1=.bool (D k w)
 | [],i,h=>⟨none,rfl,fun j e=>by cases e⟩
 | e::es,i,h=>by
  obtain ⟨k',w',t,rfl⟩:=h e (by simp)
  obtain ⟨r,h1,h2⟩:=zNQ (k:=k) (w:=w) (i+1) (fun x hx=>h x (lA8 _ hx))
  have hq:=keyQ k k' w w'
  cases hb:(decide (k=k')&&(w==w'))
  ·rw [hb] at hq
   refine ⟨r,by simp only [z3B,hq];exact h1,fun j hj=>?_⟩
   obtain ⟨a,b⟩:=h2 j hj
   have:j-i=(j-(i+1))+1:=by omega
   refine ⟨by omega,?_⟩
   rw [this,List.getD_cons_succ];exact b
  ·rw [hb] at hq
   simp only [lAQ,lAD,lCY] at hb
   obtain ⟨rfl,rfl⟩:=hb
   refine ⟨some i,by simp only [z3B,hq],fun j hj=>?_⟩
   injection hj with hj;subst hj
   exact ⟨lAL _,by simp⟩
theorem zXV.upd {D:Nat→Bt→Bool} {es:z3t} {c k:Nat} {w:Bt} {r:Option Nat} (h:zXV D es):∃ es' c',zXY es c (.agg [.int .i64 k,.str w]) (.bool (D k w)) r=.map es' c'∧zXV D es':=by
 cases r with
 | none =>
  refine ⟨_,_,rfl,fun e he=>?_⟩
  rcases lBF.1 he with he | he
  ·exact h e he
  ·simp only [lA1] at he
   subst he;exact ⟨k,w,c,rfl⟩
 | some i =>
  refine ⟨_,_,rfl,fun e he=>?_⟩
  simp only [z7f] at he
  obtain ⟨j,hj,rfl⟩:=lBR.1 he
  rw [List.getElem_modify]
  simp only [List.length_modify] at hj
  split
  ·exact ⟨k,w,_,rfl⟩
  ·exact h _ (lBT hj)
theorem a113 {D:Nat→Bt→Bool} {aid mid num:Nat} {op:Int} {s:Bt} {kv:AV} (hask:∀ (H:z0B) (w:Bt),w.length≤1000000→AskAt D aid mid H→z0D PP 162 [.ptr aid 0,.cptr [.int .i64 num,.int .i64 op,.str s,kv],.str w] H (z1r D mid H (D num w))) :
  zGx D aid mid (.cptr [.int .i64 num,.int .i64 op,.str s,kv]) (D num):=by
 intro H w hw ha
 refine is94.c3 z0R mixed rfl ?_
 rw [lAK]
 have hml:=ha.mlt
 have hal:=ha.lt
 refine z0A ?_
 refine z1w (out:=[.int .i64 num,.str w]) rfl rfl ?_
 refine z0A ?_
 refine z1a rfl rfl rfl rfl rfl rfl ?_
 have q1:(H++[Blk.cells [.int .i64 num,.str w]])[H.length]? =some (.cells [.int .i64 num,.str w]):=z0K
 have qi:=ha.inn.app [Blk.cells [.int .i64 num,.str w]]
 have qa:=ha.app [Blk.cells [.int .i64 num,.str w]]
 generalize (H++[Blk.cells [.int .i64 num,.str w]]:z0B)=X at *
 have hxl:=qi.len
 obtain ⟨n,a1⟩:=qa.at_
 have hne:=qa.ne
 obtain ⟨es,c,hv,hm⟩:=qa.inn
 have m1:=hm.get
 obtain ⟨r,hf,hr⟩:=zNQ (D:=D) (k:=num) (w:=w) 0 hv
 have hH:H.length≠mid:=by omega
 obtain ⟨is,fnd,hfo,hfd⟩:∃ is fnd,zBN (.bool false) true (r.map fun i=>(es.getD i (.top,.top,0)).2.1)=.tuple [.bool is,.bool fnd]∧(fnd=true→is=D num w):=by
  cases r with
  | none=>exact ⟨false,false,rfl,fun e=>by cases e⟩
  | some i =>
   have:=(hr i rfl).2
   rw [lEA] at this
   exact ⟨D num w,true,by simp only [lBH,zBN,this];rfl,fun _=>rfl⟩
 refine z0A ?_
 refine z1f (z2h [mid]) ?_
 refine z0A ?_
 refine zKc rfl rfl (lAL _) (zHJ (es:=es) (c:=c) (r:=r) rfl rfl m1 rfl hf hfo ?_)
 refine z2K (fun _ _ _ _ q=>q) ?_
 refine z0A ?_
 cases fnd
 ·refine z0A ?_
  refine z0L rfl (hask X w hw qa) ?_ ?_
  rotate_left
  ·rintro u V' ⟨hu,_⟩
   cases hu
  rintro u Y ⟨hu,hin⟩
  cases hu
  have q2:=hin.old hH q1
  have qa2:=qa.to hin
  have qi2:=qi.trans hin
  clear a1 n m1 hv hm hf hr hfo hfd es c r
  obtain ⟨n,a1⟩:=qa2.at_
  obtain ⟨es,c,hv,hm⟩:=qa2.inn
  have m1:=hm.get
  obtain ⟨r,hf,hr⟩:=zNQ (D:=D) (k:=num) (w:=w) 0 hv
  obtain ⟨es',c',hu,hv'⟩:=hv.upd (c:=c) (k:=num) (w:=w) (r:=r)
  refine z0A ?_
  refine z1f (z2h [mid]) ?_
  refine z0A ?_
  refine zKc rfl rfl (lAL _) (zLA (key:=.agg [.int .i64 num,.str w]) (v:=.bool (D num w)) (es:=es) (c:=c) (r:=r) rfl rfl rfl m1 rfl hf ?_)
  rw [hu]
  refine z2K (zLa (by simp)) ?_
  refine z0A ?_
  refine z0Y rfl ⟨rfl,?_⟩
  obtain ⟨es2,c2,_,m2⟩:=qi2
  exact ⟨es',c',hv',m2.put⟩
 ·refine z0A ?_
  exact z0Y rfl ⟨by rw [←hfd rfl];rfl,qi⟩
theorem z7t {α:Type} [BEq α] (f:List α→Bool) (w:List α) (e:List Bool):∀ i,(z4N f w e i).length=w.length+1
 | 0=>by simp [z4N]
 | i+1=>by rw [z4N,zHU,z7t f w e i]
theorem z7M {α:Type} [BEq α] (f:List α→Bool) (w:List α):∀ (l:List (List α→Bool)) (e:List Bool),z2e (l++[f]) w e=zGQ f w (z2e l w e)
 | [],e=>rfl
 | g::l,e=>by simp only [lB5,z2e];exact z7M f w l _
theorem z4x {α:Type} [BEq α] (w:List α):∀ (l:List (List α→Bool)) (e:List Bool),e.length=w.length+1→(z2e l w e).length=w.length+1
 | [],e,h=>h
 | g::l,e,h=>by simp only [z2e];exact z4x w l _ (z7t _ _ _ _)
def zQL (D:Nat→Bt→Bool) (aid mid:Nat) (vs:List AV) (fs:List (Bt→Bool)):Prop:=vs.length=fs.length∧∀ (i:Nat) (v:AV) (f:Bt→Bool),vs[i]? =some v→fs[i]? =some f→zGx D aid mid v f
theorem a240 {D:Nat→Bt→Bool} {aid mid:Nat} {kv:AV} {vs:List AV} {fs:List (Bt→Bool)} {w:Bt} {H:z0B} (hk:Sl 1 kv vs) (hv1:∀ v∈vs,v.cells=[v]) (hf:zQL D aid mid vs fs) (hn:vs.length≤1000000) (hw:w.length≤1000000) (ha:AskAt D aid mid H):z0D PP 203 [.ptr aid 0,kv,.str w] H (z1r D mid H (zAz fs w)):=by
 obtain ⟨hlen,hf⟩:=hf
 refine zTs.c3 z0R mixed rfl ?_
 rw [lAK]
 have hml:=ha.mlt
 have hal:=ha.lt
 refine z0z ?_
 refine z8U rfl (by omega) ?_
 have x1:(H++[BL (List.replicate (w.length+1) false)])[H.length]? =some (BL (List.replicate (w.length+1) false)):=z0K
 have xi:=ha.inn.app [BL (List.replicate (w.length+1) false)]
 generalize (H++[BL (List.replicate (w.length+1) false)]:z0B)=X at *
 refine z0z ?_
 refine z3C (i:=0) rfl rfl (by omega) ?_
 refine z3R rfl rfl x1 (by simp) ?_
 have hxl:=xi.len
 have hx1:=(lAA.1 x1).1
 have y1:(X.set H.length (BL ((List.replicate (w.length+1) false).set 0 true)))[H.length]? =some (BL (z2e (fs.take 0) w (z8h w.length))):=by
  rw [lAU hx1];rfl
 have yi:=xi.own (id:=H.length) (x:=BL ((List.replicate (w.length+1) false).set 0 true)) (by omega) (by omega)
 generalize (X.set H.length (BL ((List.replicate (w.length+1) false).set 0 true)))=Y at *
 clear x1 xi hx1 hxl X
 refine z0z ?_
 refine z0F vs.length (fun i al H'=>∃ eb,al=[(0,.ptr aid 0),(2,.str w),(7,.sl eb 0 (w.length+1) 1),(20,kv),(21,.int .i64 vs.length),(22,.int .i64 i)]∧z0n D mid H H'∧H.length≤eb∧H'[eb]? =some (BL (z2e (fs.take i) w (z8h w.length)))) ⟨_,rfl,yi,lAL _,y1⟩ ?_
 clear y1 yi Y
 rintro i _ V hi ⟨eb,rfl,vi,heb,v1⟩
 have e1:decide ((i:Int)<(vs.length:Int))=decide (i<vs.length):=by simp only [lAP];omega
 refine z0z ?_
 rw [e1]
 cases hc:decide (i<vs.length)
 ·simp only [lAC] at hc
  have:fs.take i=fs:=lAS (by omega)
  rw [this] at v1
  refine z0z ?_
  refine z3S rfl v1 (z3D (by rw [z4x _ _ _ (by simp [z8h])];omega)) ?_
  refine z0z ?_
  exact z0Y rfl ⟨rfl,vi⟩
 simp only [lAD] at hc
 obtain ⟨v,hv⟩:=z0M (l:=vs) (i:=i) hc
 obtain ⟨f,hfi⟩:=z0M (l:=fs) (i:=i) (by omega)
 have hav:=hf i v f hv hfi
 have hvc:=hv1 v (lAF hv)
 have htk:z2e (fs.take (i+1)) w (z8h w.length)=zGQ f w (z2e (fs.take i) w (z8h w.length)):=by
  rw [lBA,hfi]
  exact z7M _ _ _ _
 have hle:=z4x w (fs.take i) (z8h w.length) (by simp [z8h])
 have hEl:(z8h w.length).length=w.length+1:=by simp [z8h]
 generalize hE:z2e (fs.take i) w (z8h w.length)=E at *
 clear hEl
 refine z0z ?_
 rw [hvc]
 refine z0z ?_
 refine z8U rfl (by omega) ?_
 have x1:(V++[BL (List.replicate (w.length+1) false)])[V.length]? =some (BL (z4N f w E 0)):=z0K
 have x0:=z0G (G:=[BL (List.replicate (w.length+1) false)]) v1
 have xi:=vi.app [BL (List.replicate (w.length+1) false)]
 have hVl:=vi.len
 have hne:V.length≠eb:=by
  have:=(lAA.1 v1).1
  omega
 generalize (V++[BL (List.replicate (w.length+1) false)]:z0B)=X at *
 generalize V.length=nb at *
 clear v1 vi V
 refine z0z ?_
 refine z0F (w.length+1) (fun q al H'=>al=[(0,.ptr aid 0),(2,.str w),(9,v),(10,.sl nb 0 (w.length+1) 1),(20,kv),(21,.int .i64 vs.length),(22,.int .i64 i),(30,.sl eb 0 (w.length+1) 1),(31,.int .i64 (w.length+1:Nat)),(32,.int .i64 q)]∧z0n D mid H H'∧H'[eb]? =some (BL E)∧H'[nb]? =some (BL (z4N f w E q))) ⟨rfl,xi,x0,x1⟩ ?_
 clear x0 x1 xi X
 rintro q _ V hq ⟨rfl,vi,v0,v1⟩
 have e2:decide ((q:Int)<((w.length+1:Nat):Int))=decide (q<w.length+1):=by simp only [lAP];omega
 refine z0z ?_
 rw [e2]
 cases hc2:decide (q<w.length+1)
 ·simp only [lAC] at hc2
  obtain rfl:q=w.length+1:=by omega
  refine z0z ?_
  exact ⟨hc,nb,rfl,vi,hVl,by rw [htk];exact v1⟩
 simp only [lAD] at hc2
 have hgq:=z3D (l:=E) (k:=q) (by omega)
 have hl:=z7t f w E q
 have hLs:z4N f w E (q+1)=zCs f w (E.getD q false) q q (z4N f w E q):=rfl
 generalize z4N f w E q=L at *
 generalize E.getD q false=is at *
 refine z0z ?_
 refine z3S rfl v0 hgq ?_
 refine z0z ?_
 refine z0F (w.length+1) (fun j al H'=>al=[(0,.ptr aid 0),(2,.str w),(9,v),(10,.sl nb 0 (w.length+1) 1),(11,.int .i64 q),(12,.bool is),(13,.int .i64 (q+j:Nat)),(20,kv),(21,.int .i64 vs.length),(22,.int .i64 i),(30,.sl eb 0 (w.length+1) 1),(31,.int .i64 (w.length+1:Nat)),(32,.int .i64 q)]∧z0n D mid H H'∧H'[eb]? =some (BL E)∧H'[nb]? =some (BL (z6Q f w is q q L (q+j)))) ⟨rfl,vi,v0,by rw [zCt (by omega)];exact v1⟩ ?_
 clear v0 v1 vi V
 rintro j _ V hj ⟨rfl,vi,v0,v1⟩
 have hVl2:=vi.len
 have hl2:(z6Q f w is q q L (q+j)).length=w.length+1:=by rw [z7j,hl]
 have hend:is=false∨w.length<q+j→z6Q f w is q q L (q+j)=z4N f w E (q+1):=by
  intro h
  rw [hLs]
  rcases h with h | h
  ·rw [h,zCr]
   apply lCD
   intro k
   cases hk:L[k]? with
   | none=>simp [z6Q,hk]
   | some b=>rw [z2Z hk];simp
  ·exact z9V (by omega)
 generalize hR:z6Q f w is q q L (q+j)=R at *
 have e3:decide (((q+j:Nat):Int)≤(w.length:Int))=decide (q+j≤w.length):=by simp only [lAP];omega
 cases is
 ·have:=hend (.inl rfl)
  refine z0z ?_
  exact ⟨by omega,rfl,vi,v0,by rw [←this];exact v1⟩
 refine z0z ?_
 rw [e3]
 cases hk:decide (q+j≤w.length)
 ·simp only [lAC] at hk
  have:=hend (.inr (by omega))
  refine z0z ?_
  exact ⟨by omega,rfl,vi,v0,by rw [←this];exact v1⟩
 simp only [lAD] at hk
 have hat:=zCu (f:=f) (w:=w) (is:=true) (lo:=q) (i:=q) (l:=L) (m:=q+j) (by omega)
 have hst:=z7h (f:=f) (w:=w) (lo:=q) (i:=q) (l:=L) (m:=q+j) (by omega) (by omega)
 rw [hR] at hat hst
 refine z0z ?_
 refine z3S rfl v1 hat ?_
 cases hb:L.getD (q+j) false
 ·rw [hb,lCL] at hst
  refine z0z ?_
  refine z7Z rfl rfl (z8K (by omega) hk) ?_
  refine z5h rfl ?_
  refine z0L rfl (hav V (sub w q (q+j)) (by unfold sub;simp;omega) (ha.to vi)) ?_ ?_
  ·rintro u V' ⟨hu,hin⟩
   cases hu
   have v2:=hin.old (by omega) v1
   have v3:=hin.old (by omega) v0
   have vi2:=vi.trans hin
   refine z0z ?_
   refine z3R rfl rfl v2 (by omega) ?_
   refine z0z ?_
   refine ⟨by omega,rfl,vi2.own (by omega) (by omega),?_,?_⟩
   ·rw [lCE hne];exact v3
   ·rw [lAU (lAA.1 v2).1,hst];rfl
  ·rintro u V' ⟨hu,_⟩
   cases hu
 ·rw [hb,lD5] at hst
  refine z0z ?_
  refine z3R rfl rfl v1 (by omega) ?_
  refine z0z ?_
  refine ⟨by omega,rfl,vi.own (by omega) (by omega),?_,?_⟩
  ·rw [lCE hne];exact v0
  ·rw [lAU (lAA.1 v1).1,hst];rfl
section
variable {D:Nat→Bt→Bool} {aid mid:Nat} {H:z0B}
theorem zGa:hasBody PP 202=true:=by kernel_rfl
theorem zZU:hasBody PP 205=true:=by kernel_rfl
theorem a263 {kv:AV} {vs caps:List AV} {bs:List Bool} {g:FuncId} (hk:Sl 1 kv vs) (hv1:∀ v∈vs,v.cells=[v]) (hlen:vs.length=bs.length) (hn:vs.length≤1000000) (hb:hasBody PP g=true) (ha:z0n D mid H H)
  (hcl:∀ (H':z0B) (i:Nat) (v:AV) (b:Bool),z0n D mid H H'→vs[i]? =some v→bs[i]? =some b→z0D PP g (v::caps) H' (z1r D mid H' b)) :
  z0D PP 224 [kv,.clo (.func g) [] caps] H (fun r H'=>(∃ n:Int,r=.ret (.int .i64 n)∧decide (n≥0)=bs.any id)∧z0n D mid H H'):=by
 refine zTj.c2 z0R mixed rfl ?_
 rw [lAK]
 refine z0A ?_
 refine z0F vs.length (fun i al H'=>al=[(0,kv),(1,.clo (.func g) [] caps),(7,.int .i64 vs.length),(8,.int .i64 i)]∧z0n D mid H H'∧(bs.take i).any id=false) ⟨rfl,ha,by simp⟩ ?_
 rintro i _ V hi ⟨rfl,vi,v1⟩
 have e1:decide ((i:Int)<(vs.length:Int))=decide (i<vs.length):=by simp only [lAP];omega
 refine z0A ?_
 rw [e1]
 cases hc:decide (i<vs.length)
 ·simp only [lAC] at hc
  have:bs.take i=bs:=lAS (by omega)
  rw [this] at v1
  refine z0A ?_
  exact z0Y rfl ⟨⟨-1,rfl,by rw [v1];rfl⟩,vi⟩
 simp only [lAD] at hc
 obtain ⟨v,hv⟩:=z0M (l:=vs) (i:=i) hc
 obtain ⟨b,hbi⟩:=z0M (l:=bs) (i:=i) (by omega)
 have hvc:=hv1 v (lAF hv)
 have k:=hcl V i v b vi hv hbi
 refine z0A ?_
 rw [hvc]
 refine z0A ?_
 refine z2n rfl hb k ?_ ?_
 rotate_left
 ·rintro u V' ⟨hu,_⟩
  cases hu
 rintro u V' ⟨hu,hin⟩
 cases hu
 have vi2:=vi.trans hin
 cases b
 ·refine z0A ?_
  refine ⟨by omega,rfl,vi2,?_⟩
  rw [lBA,lDK,v1,hbi];rfl
 ·refine z0A ?_
  refine z0Y rfl ⟨⟨i,rfl,?_⟩,vi2⟩
  have:bs.any id=true:=lA3.2 ⟨true,lAF hbi,rfl⟩
  rw [this,lAD];omega
theorem a241 {kv:AV} {vs caps:List AV} {bs:List Bool} {g:FuncId} (hk:Sl 1 kv vs) (hv1:∀ v∈vs,v.cells=[v]) (hlen:vs.length=bs.length) (hn:vs.length≤1000000) (hb:hasBody PP g=true) (ha:z0n D mid H H)
  (hcl:∀ (H':z0B) (i:Nat) (v:AV) (b:Bool),z0n D mid H H'→vs[i]? =some v→bs[i]? =some b→z0D PP g (v::caps) H' (z1r D mid H' b)) :
  z0D PP 204 [kv,.clo (.func g) [] caps] H (z1r D mid H (bs.any id)):=by
 refine zTr.c2 z0R mixed rfl ?_
 rw [lAK]
 refine z0A ?_
 refine z0L rfl (a263 hk hv1 hlen hn hb ha hcl) ?_ ?_
 rotate_left
 ·rintro u V' ⟨⟨n,hu,_⟩,_⟩
  cases hu
 rintro u V' ⟨⟨n,hu,hnb⟩,hin⟩
 cases hu
 refine z0A ?_
 exact z0Y rfl ⟨by rw [←hnb];rfl,hin⟩
theorem a239 {v:AV} {f:Bt→Bool} {w:Bt} {ba bw:Nat} (hf:zGx D aid mid v f) (hw:w.length≤1000000) (ha:AskAt D aid mid H) (h1:H[ba]? =some (.cells [.ptr aid 0])) (h2:H[bw]? =some (.cells [.str w])) :
  z0D PP 202 [v,.ptr ba 0,.ptr bw 0] H (z1r D mid H (f w)):=by
 refine zTt.c3 z0R mixed rfl ?_
 rw [lAK]
 refine z0A ?_
 refine z0L rfl (hf H w hw ha) ?_ ?_
 rotate_left
 ·rintro u V' ⟨hu,_⟩
  cases hu
 rintro u V' ⟨hu,hin⟩
 cases hu
 refine z0A ?_
 exact z0Y rfl ⟨rfl,hin⟩
theorem a242 {v:AV} {caps:List AV} {b:Bool} {bo:Nat} (h1:H[bo]? =some (.cells [.clo (.func 202) [] caps])) (hc:z0D PP 202 (v::caps) H (z1r D mid H b)) :
  z0D PP 205 [v,.ptr bo 0] H (z1r D mid H (!b)):=by
 refine zTq.c2 z0R mixed rfl ?_
 rw [lAK]
 refine z0A ?_
 refine z2n rfl zGa hc ?_ ?_
 rotate_left
 ·rintro u V' ⟨hu,_⟩
  cases hu
 rintro u V' ⟨hu,hin⟩
 cases hu
 refine z0A ?_
 exact z0Y rfl ⟨rfl,hin⟩
end
end Go.Ab
