/- Part 37 of the proof. -/
import Derived.Test.YtagcckioikbanaaGreatDoorA25
import Derived.Test.YtagcckioikbanaaGreatDoorA29
import Derived.Test.YtagcckioikbanaaGreatDoorA30
import Derived.Test.YtagcckioikbanaaGreatDoorA33
import Derived.Test.YtagcckioikbanaaGreatDoorA36
set_option linter.unusedVariables false
set_option linter.unusedSimpArgs false
namespace Go.Ab
open Go
set_option maxRecDepth 100000
set_option maxHeartbeats 8000000
theorem z7E {g:Nat→Bool} {i:Nat} (h:(List.range i).all g=true) (h2:g i=true):(List.range (i+1)).all g=true:=by
 rw [lDR,lEE,h];simp [h2]
theorem z4d {g:Nat→Bool} {i n:Nat} (h:i<n) (h2:g i=false):(List.range n).all g=false:=by
 rw [List.all_eq_false]
 exact ⟨i,lA8.2 h,by simp [h2]⟩
theorem zPP {g:Nat→Bool} {i:Nat} (h:∀ k,k<i→g k=true):(List.range i).all g=true:=by
 rw [lAZ]
 intro k hk
 exact h k (lA8.1 hk)
def zKx (f g h:Bt→Bool) (w:Bt) (i k:Nat):Bool:=!(decide (i≤k)&&f (sub w i k))||(z3N g (w.take i)&&z0r h (w.drop k))
theorem a244 {D:Nat→Bt→Bool} {aid mid num:Nat} {op:Int} {s:Bt} {kv x y z:AV} {r:List AV} {f g h:Bt→Bool} {w:Bt} {H:z0B} (hk:Sl 1 kv (x::y::z::r)) (hx1:x.cells=[x]) (hy1:y.cells=[y]) (hz1:z.cells=[z])
  (hf:zJA D aid mid x f) (hg:zJA D aid mid y g) (hh:zJA D aid mid z h) (hw:w.length≤1000000) (ha:AskAt D aid mid H) :
  z0C PP 207 [.ptr aid 0,.cptr [.int .i64 num,.int .i64 op,.str s,kv],.str w] H (z2A D mid H (zFg f g h w)):=by
 refine zUp.c3 z0P mixed rfl ?_
 rw [lAJ]
 have hml:=ha.mlt
 have hal:=ha.lt
 show WI _ _ (z4P _ (z2A D mid H ((List.range (w.length+1)).all fun i=>(List.range (w.length+1)).all (zKx f g h w i)))) _ _
 refine z0A ?_
 refine z0H (w.length+1) (fun i al H'=>al=[(0,.ptr aid 0),(1,.cptr [.int .i64 num,.int .i64 op,.str s,kv]),(2,.str w),(11,.int .i64 (w.length+1:Nat)),(12,.int .i64 i)]∧z0m D mid H H'∧((List.range i).all fun i=>(List.range (w.length+1)).all (zKx f g h w i))=true) ⟨rfl,ha.inn,rfl⟩ ?_
 rintro i _ V hi ⟨rfl,vi,v1⟩
 have e1:decide ((i:Int)<((w.length+1:Nat):Int))=decide (i<w.length+1):=by simp only [lAP];omega
 refine z0A ?_
 rw [e1]
 cases hc:decide (i<w.length+1)
 ·simp only [lAC] at hc
  obtain rfl:i=w.length+1:=by omega
  refine z0A ?_
  exact z0W rfl ⟨by rw [v1];rfl,vi⟩
 simp only [lAE] at hc
 refine z0A ?_
 refine z0H (w.length+1) (fun j al H'=>al=[(0,.ptr aid 0),(1,.cptr [.int .i64 num,.int .i64 op,.str s,kv]),(2,.str w),(7,.int .i64 i),(8,.int .i64 (i+j:Nat)),(11,.int .i64 (w.length+1:Nat)),(12,.int .i64 i)]∧z0m D mid H H'∧(List.range (i+j)).all (zKx f g h w i)=true) ⟨rfl,vi,zPP fun k hk=>by
  have:¬ i≤k:=by omega
  simp [zKx,this]⟩ ?_
 clear vi V
 rintro j _ V hj ⟨rfl,vi,v2⟩
 have e2:decide (((i+j:Nat):Int)≤(w.length:Int))=decide (i+j≤w.length):=by simp only [lAP];omega
 refine z0A ?_
 rw [e2]
 cases hk:decide (i+j≤w.length)
 ·simp only [lAC] at hk
  refine z0A ?_
  refine ⟨hc,rfl,vi,z7E v1 ?_⟩
  have:i+j=w.length+1∨w.length+1≤i+j:=by omega
  rw [lAZ] at v2 ⊢
  intro k hk
  exact v2 k (lA8.2 (by have:=lA8.1 hk;omega))
 simp only [lAE] at hk
 have hgx:(x::y::z::r)[0]? =some x:=rfl
 have hgy:(x::y::z::r)[1]? =some y:=rfl
 have hgz:(x::y::z::r)[2]? =some z:=rfl
 have hVl:=vi.len
 refine z0A ?_
 refine z1B (z2m [mid]) ?_
 refine z0A ?_
 rw [hx1]
 refine z0A ?_
 refine z5e (s:=w) (a:=i) (b:=i+j) rfl rfl (z5V (by omega) hk) ?_
 refine z3q ?_
 have hP:zKx f g h w i (i+j)=(!f (sub w i (i+j))||(z3N g (w.take i)&&z0r h (w.drop (i+j)))):=by
  have:i≤i+j:=by omega
  simp [zKx,this]
 refine z4g (R:=z2A D mid V (f (sub w i (i+j)))) rfl (lAL _) rfl (hf V _ (by simp;omega) (ha.to vi)) ?_ ?_
 rotate_left
 ·rintro u V' ⟨hu,_⟩
  cases hu
 rintro u V1 ⟨hu,hin⟩
 cases hu
 refine ⟨hin.mod,?_⟩
 have vi1:=vi.trans hin
 have hV1:=hin.len
 cases hb:f (sub w i (i+j))
 ·rw [hb] at hP
  refine z0A ?_
  refine zDW rfl hV1 rfl rfl ?_
  refine z0A ?_
  refine zCN rfl hV1 rfl ?_
  refine z0A ?_
  exact ⟨by omega,rfl,vi1,z7E v2 hP⟩
 rw [hb,lDL,lCP] at hP
 refine z0A ?_
 rw [hy1]
 refine z0A ?_
 refine z8B (R:=z2A D mid V1 (z3N g (w.take i))) rfl hV1 rfl rfl (a63 hg (by simp;omega) (ha.to vi1)) ?_ ?_
 rotate_left
 ·rintro u V' ⟨hu,_⟩
  cases hu
 rintro u V2 ⟨hu,hin2⟩
 cases hu
 refine ⟨hin2.mod,?_⟩
 have vi2:=vi1.trans hin2
 have hV2:=hin2.len
 cases hb2:z3N g (w.take i)
 ·rw [hb2,lD0] at hP
  refine z0A ?_
  refine zDW rfl (lBK hV1 hV2) rfl rfl ?_
  refine z0A ?_
  exact z0W rfl ⟨by rw [z4d hc (z4d (i:=i+j) (by omega) hP)];rfl,vi2⟩
 rw [hb2,lCW] at hP
 refine z0A ?_
 rw [hz1]
 refine z0A ?_
 refine z8B (R:=z2A D mid V2 (z0r h (w.drop (i+j)))) rfl (lBK hV1 hV2) rfl rfl (a65 hh (by simp;omega) (ha.to vi2)) ?_ ?_
 rotate_left
 ·rintro u V' ⟨hu,_⟩
  cases hu
 rintro u V3 ⟨hu,hin3⟩
 cases hu
 refine ⟨hin3.mod,?_⟩
 have vi3:=vi2.trans hin3
 cases hb3:z0r h (w.drop (i+j))
 ·rw [hb3] at hP
  refine z0A ?_
  exact z0W rfl ⟨by rw [z4d hc (z4d (i:=i+j) (by omega) hP)];rfl,vi3⟩
 ·rw [hb3] at hP
  refine z0A ?_
  exact ⟨by omega,rfl,vi3,z7E v2 hP⟩
structure Form (op:Int) (n:Nat):Prop where
 one:op=8∨op=9∨op=10∨op=11∨op=12→1≤n
 two:op=7→2≤n
 three:op=14→3≤n
 no13:op≠13
 no15:op≠15
theorem z1j {α:Type} {l:List α} {i:Nat} {x d:α} (h:l[i]? =some x):l.getD i d=x:=by rw [lAB,h];rfl
theorem z7n (w:Bt):(w==[])=w.isEmpty:=by cases w<;>rfl
theorem zDT {α:Type} (l:List α) (g:α→Bool):(l.map g).any id=l.any g:=by rw [List.any_map];rfl
theorem z2E {a b:Int} (h:(a==b)=false):a≠b:=by simpa using h
section
variable {D:Nat→Bt→Bool} {aid mid:Nat}
theorem zRL.get {vs:List AV} {fs:List (Bt→Bool)} (h:zRL D aid mid vs fs) {i:Nat} (hi:i<vs.length):∃ v f,vs[i]? =some v∧fs[i]? =some f∧zJA D aid mid v f:=by
 obtain ⟨v,hv⟩:=z0M (l:=vs) (i:=i) hi
 obtain ⟨f,hf⟩:=z0M (l:=fs) (i:=i) (by rw [←h.1];exact hi)
 exact ⟨v,f,hv,hf,h.2 i v f hv hf⟩
theorem a194 {num:Nat} {op:Int} {s:Bt} {kv:AV} {vs:List AV} {fs:List (Bt→Bool)} {w:Bt} {H:z0B} (hk:Sl 1 kv vs) (hv1:∀ v∈vs,v.cells=[v]) (hL:zRL D aid mid vs fs) (hn:vs.length≤1000000) (hform:Form op vs.length)
  (hw:w.length≤1000000) (ha:AskAt D aid mid H):z0C PP 162 [.ptr aid 0,.cptr [.int .i64 num,.int .i64 op,.str s,kv],.str w] H (z2A D mid H (z2S op s fs w)):=by
 refine zVJ.c3 z0P mixed rfl ?_
 have hml:=ha.mlt
 have hal:=ha.lt
 have hlen:=hL.1
 refine z0A ?_
 show VV _ _ _ (H++[Blk.cells [.ptr aid 0],.cells [.str w]]) _ _
 refine z6P (vs:=[.ptr (H.length+0) 0,.ptr (H.length+1) 0]) rfl ?_
 refine z0A ?_
 refine z0h (.clo (.func 202) [] [.ptr (H.length+0) 0,.ptr (H.length+1) 0]) rfl rfl z0E rfl rfl (H':=H++[Blk.cells [.ptr aid 0],.cells [.str w]]++[.cells [.clo (.func 202) [] [.ptr (H.length+0) 0,.ptr (H.length+1) 0]]]) (by rw [lA6 _ _ (lAL _),lBG];rfl) ?_
 have x7:(H++[Blk.cells [.ptr aid 0],.cells [.str w]]++[.cells [.clo (.func 202) [] [.ptr (H.length+0) 0,.ptr (H.length+1) 0]]])[(H++[Blk.cells [.ptr aid 0],.cells [.str w]]:z0B).length]? =some (.cells [.clo (.func 202) [] [.ptr (H.length+0) 0,.ptr (H.length+1) 0]]):=z0E
 have x3:(H++[Blk.cells [.ptr aid 0],.cells [.str w]]++[.cells [.clo (.func 202) [] [.ptr (H.length+0) 0,.ptr (H.length+1) 0]]])[H.length+0]? =some (.cells [.ptr aid 0]):=by
  rw [lA3];exact z1S
 have x5:(H++[Blk.cells [.ptr aid 0],.cells [.str w]]++[.cells [.clo (.func 202) [] [.ptr (H.length+0) 0,.ptr (H.length+1) 0]]])[H.length+1]? =some (.cells [.str w]):=by
  rw [lA3];exact z1S
 have xi:=(ha.inn.app [Blk.cells [.ptr aid 0],.cells [.str w]]).app [.cells [.clo (.func 202) [] [.ptr (H.length+0) 0,.ptr (H.length+1) 0]]]
 have hl7:(H++[Blk.cells [.ptr aid 0],.cells [.str w]]:z0B).length=H.length+2:=by simp
 rw [hl7] at x7
 rw [hl7]
 generalize (H++[Blk.cells [.ptr aid 0],.cells [.str w]]++[.cells [.clo (.func 202) [] [.ptr (H.length+0) 0,.ptr (H.length+1) 0]]]:z0B)=X at *
 have n3:H.length+0≠mid:=by omega
 have n5:H.length+1≠mid:=by omega
 have n7:H.length+2≠mid:=by omega
 have xa:=ha.to xi
 have xx:=xi.self
 have ask1:∀ (H':z0B) (v:AV) (f:Bt→Bool),zJA D aid mid v f→z0m D mid X H'→z0C PP 202 ([]++[v]++[.ptr (H.length+0) 0,.ptr (H.length+1) 0]) H' (z2A D mid H' (f w)):=fun H' v f hf hin =>
  a239 hf hw (xa.to hin) (hin.old n3 x3) (hin.old n5 x5)
 have hlX:=xi.len
 have each:∀ {g:(Bt→Bool)→Bool} {i:Nat} {v:AV} {b:Bool},vs[i]? =some v→(fs.map g)[i]? =some b→∃ f,zJA D aid mid v f∧b=g f:=fun {g i v b} hv hb=>by
  rw [lAK] at hb
  obtain ⟨f,hf⟩:=z0M (l:=fs) (i:=i) (by have:=(lAA.1 hv).1;omega)
  rw [hf] at hb
  injection hb with hb
  exact ⟨f,hL.2 i v f hv hf,hb.symm⟩
 have kOr:z0C PP 204 [kv,.clo (.func 202) [] [.ptr (H.length+0) 0,.ptr (H.length+1) 0]] X (z2A D mid X (fs.any fun f=>f w)):=by
  have k:=a241 (bs:=fs.map fun f=>f w) (caps:=[.ptr (H.length+0) 0,.ptr (H.length+1) 0]) (g:=202) hk hv1 (by rw [lAD];exact hlen) hn zHd xx (fun H' i v b hin hv hb=>by
   obtain ⟨f,hf,rfl⟩:=each hv hb
   exact ask1 H' v f hf hin)
  rw [zDT] at k;exact k
 have kAnd:z0C PP 204 [kv,.clo (.func 205) [] [.ptr (H.length+2) 0]] X (z2A D mid X (fs.any fun f=>!f w)):=by
  have k:=a241 (bs:=fs.map fun f=>!f w) (caps:=[.ptr (H.length+2) 0]) (g:=205) hk hv1 (by rw [lAD];exact hlen) hn y0k xx (fun H' i v b hin hv hb=>by
   obtain ⟨f,hf,rfl⟩:=each hv hb
   exact a242 (hin.old n7 x7) (ask1 H' v f hf hin))
  rw [zDT] at k;exact k
 refine z0A ?_
 cases h0:(op==0)
 rotate_left
 ·obtain rfl:op=0:=by simpa using h0
  refine z0A ?_
  exact z0W rfl ⟨rfl,xi⟩
 refine z0A ?_
 cases h1:(op==1)
 rotate_left
 ·obtain rfl:op=1:=by simpa using h1
  refine z0A ?_
  exact z0W rfl ⟨rfl,xi⟩
 refine z0A ?_
 cases h2:(op==2)
 rotate_left
 ·obtain rfl:op=2:=by simpa using h2
  refine z0A ?_
  exact z0W rfl ⟨by show ARes.ret (.bool (w==[]))=.ret (.bool w.isEmpty);rw [z7n],xi⟩
 refine z0A ?_
 cases h4:(op==4)
 rotate_left
 ·obtain rfl:op=4:=by simpa using h4
  refine z0A ?_
  refine z1B (z2m [mid]) ?_
  refine z0A ?_
  refine z4g (R:=z2A D mid X (zBr fs w)) rfl (lAL _) rfl (a240 hk hv1 hL hn hw xa) ?_ ?_
  rotate_left
  ·rintro u V' ⟨hu,_⟩
   cases hu
  rintro u V1 ⟨hu,hin⟩
  cases hu
  refine ⟨hin.mod,?_⟩
  refine z0A ?_
  exact z0W rfl ⟨rfl,xi.trans hin⟩
 refine z0A ?_
 cases h5:(op==5)
 rotate_left
 ·obtain rfl:op=5:=by simpa using h5
  refine z0A ?_
  refine z1B (z2m [mid]) ?_
  refine z0A ?_
  refine z4g (R:=z2A D mid X (fs.any fun f=>f w)) rfl (lAL _) rfl kOr ?_ ?_
  rotate_left
  ·rintro u V' ⟨hu,_⟩
   cases hu
  rintro u V1 ⟨hu,hin⟩
  cases hu
  refine ⟨hin.mod,?_⟩
  refine z0A ?_
  exact z0W rfl ⟨rfl,xi.trans hin⟩
 refine z0A ?_
 cases h6:(op==6)
 rotate_left
 ·obtain rfl:op=6:=by simpa using h6
  refine z0A ?_
  refine z6P (vs:=[.ptr (H.length+2) 0]) rfl ?_
  refine z0L (R:=z2A D mid X (fs.any fun f=>!f w)) rfl kAnd ?_ ?_
  rotate_left
  ·rintro u V' ⟨hu,_⟩
   cases hu
  rintro u V1 ⟨hu,hin⟩
  cases hu
  refine z0A ?_
  exact z0W rfl ⟨by show ARes.ret (.bool (!fs.any fun f=>!f w))=.ret (.bool (fs.all fun f=>f w));rw [List.all_eq_not_any_not],xi.trans hin⟩
 refine z0A ?_
 cases h7:(op==7)
 rotate_left
 ·obtain rfl:op=7:=by simpa using h7
  have:=hform.two rfl
  obtain ⟨v0,f0,hv0,hf0,hA0⟩:=hL.get (i:=0) (by omega)
  obtain ⟨v1,f1,hv1',hf1,hA1⟩:=hL.get (i:=1) (by omega)
  have hc0:=hv1 v0 (lAF hv0)
  have hc1:=hv1 v1 (lAF hv1')
  have hd:z2S 7 s fs w=(f0 w && !f1 w):=by
   show ((fs.getD 0 fun _=>false) w && !(fs.getD 1 fun _=>false) w)=_
   rw [z1j hf0,z1j hf1]
  rw [hd]
  refine z0A ?_
  refine z1B (z2m [mid]) ?_
  refine z0A ?_
  rw [hc0]
  refine z0A ?_
  refine zAG (R:=z2A D mid X (f0 w)) rfl (lAL _) rfl zHd (ask1 X v0 f0 hA0 xx) ?_ ?_
  rotate_left
  ·rintro u V' ⟨hu,_⟩
   cases hu
  rintro u V1 ⟨hu,hin⟩
  cases hu
  refine ⟨hin.mod,?_⟩
  have y7:=hin.old n7 x7
  have hV1:=hin.len
  cases hb:f0 w
  ·refine z0A ?_
   refine zDW rfl hV1 rfl rfl ?_
   refine z0A ?_
   exact z0W rfl ⟨rfl,xi.trans hin⟩
  ·refine z0A ?_
   rw [hc1]
   refine z0A ?_
   refine zAY (R:=z2A D mid V1 (f1 w)) rfl hV1 rfl rfl zHd (ask1 V1 v1 f1 hA1 hin) ?_ ?_
   rotate_left
   ·rintro u V' ⟨hu,_⟩
    cases hu
   rintro u V2 ⟨hu,hin2⟩
   cases hu
   refine ⟨hin2.mod,?_⟩
   refine z0A ?_
   exact z0W rfl ⟨rfl,(xi.trans hin).trans hin2⟩
 refine z0A ?_
 cases h8:(op==8)
 rotate_left
 ·obtain rfl:op=8:=by simpa using h8
  have:=hform.one (.inl rfl)
  obtain ⟨v0,f0,hv0,hf0,hA0⟩:=hL.get (i:=0) (by omega)
  have hc0:=hv1 v0 (lAF hv0)
  have hd:z2S 8 s fs w=z4h f0 w:=by
   show z4h (fs.getD 0 fun _=>false) w=_
   rw [z1j hf0]
  rw [hd]
  refine z0A ?_
  refine z1B (z2m [mid]) ?_
  refine z0A ?_
  rw [hc0]
  refine z0A ?_
  refine z4g (R:=z2A D mid X (z4h f0 w)) rfl (lAL _) rfl (a243 hA0 hw xa) ?_ ?_
  rotate_left
  ·rintro u V' ⟨hu,_⟩
   cases hu
  rintro u V1 ⟨hu,hin⟩
  cases hu
  refine ⟨hin.mod,?_⟩
  refine z0A ?_
  exact z0W rfl ⟨rfl,xi.trans hin⟩
 refine z0A ?_
 cases h9:(op==9)
 rotate_left
 ·obtain rfl:op=9:=by simpa using h9
  have:=hform.one (.inr (.inl rfl))
  obtain ⟨v0,f0,hv0,hf0,hA0⟩:=hL.get (i:=0) (by omega)
  have hc0:=hv1 v0 (lAF hv0)
  have hd:z2S 9 s fs w=((w==[])&&f0 w || !(w==[])&&z4h f0 w):=by
   show ((w.isEmpty&&(fs.getD 0 fun _=>false) w)||(!w.isEmpty&&z4h (fs.getD 0 fun _=>false) w))=_
   rw [z1j hf0,z7n]
  rw [hd]
  refine z0A ?_
  refine z1B (z2m [mid]) ?_
  refine z0A ?_
  cases hwe:(w==[])
  ·have hwn:(!(w==[]))=true:=by rw [hwe];rfl
   refine z0A ?_
   refine zDW rfl (lAL _) rfl rfl ?_
   refine z0A ?_
   rw [hc0]
   refine z0A ?_
   refine z8B (R:=z2A D mid X (z4h f0 w)) rfl (lAL _) (congrArg AV.bool hwn) rfl (a243 hA0 hw xa) ?_ ?_
   rotate_left
   ·rintro u V' ⟨hu,_⟩
    cases hu
   rintro u V1 ⟨hu,hin⟩
   cases hu
   refine ⟨hin.mod,?_⟩
   refine z0A ?_
   exact z0W rfl ⟨rfl,xi.trans hin⟩
  ·have hwn:(!(w==[]))=false:=by rw [hwe];rfl
   refine z0A ?_
   rw [hc0]
   refine z0A ?_
   refine zAY (R:=z2A D mid X (f0 w)) rfl (lAL _) rfl rfl zHd (ask1 X v0 f0 hA0 xx) ?_ ?_
   rotate_left
   ·rintro u V' ⟨hu,_⟩
    cases hu
   rintro u V1 ⟨hu,hin⟩
   cases hu
   refine ⟨hin.mod,?_⟩
   have y3:=hin.old n3 x3
   have y5:=hin.old n5 x5
   have hV1:=hin.len
   cases hb:f0 w
   ·refine z0A ?_
    refine zDW rfl hV1 (congrArg AV.bool hwn) rfl ?_
    refine z0A ?_
    exact z0W rfl ⟨rfl,xi.trans hin⟩
   ·refine z0A ?_
    refine zCN rfl hV1 rfl ?_
    refine z0A ?_
    exact z0W rfl ⟨rfl,xi.trans hin⟩
 refine z0A ?_
 cases h10:(op==10)
 rotate_left
 ·obtain rfl:op=10:=by simpa using h10
  have:=hform.one (.inr (.inr (.inl rfl)))
  obtain ⟨v0,f0,hv0,hf0,hA0⟩:=hL.get (i:=0) (by omega)
  have hc0:=hv1 v0 (lAF hv0)
  have hd:z2S 10 s fs w=((w==[])||f0 w):=by
   show (w.isEmpty||(fs.getD 0 fun _=>false) w)=_
   rw [z1j hf0,z7n]
  rw [hd]
  refine z0A ?_
  refine z1B (z2m [mid]) ?_
  refine z0A ?_
  cases hwe:(w==[])
  ·refine z0A ?_
   rw [hc0]
   refine z0A ?_
   refine zAY (R:=z2A D mid X (f0 w)) rfl (lAL _) rfl rfl zHd (ask1 X v0 f0 hA0 xx) ?_ ?_
   rotate_left
   ·rintro u V' ⟨hu,_⟩
    cases hu
   rintro u V1 ⟨hu,hin⟩
   cases hu
   refine ⟨hin.mod,?_⟩
   refine z0A ?_
   exact z0W rfl ⟨rfl,xi.trans hin⟩
  ·refine z0A ?_
   refine zDW rfl (lAL _) rfl rfl ?_
   refine z0A ?_
   exact z0W rfl ⟨rfl,xi⟩
 refine z0A ?_
 cases h11:(op==11)
 rotate_left
 ·obtain rfl:op=11:=by simpa using h11
  have:=hform.one (.inr (.inr (.inr (.inl rfl))))
  obtain ⟨v0,f0,hv0,hf0,hA0⟩:=hL.get (i:=0) (by omega)
  have hc0:=hv1 v0 (lAF hv0)
  have hd:z2S 11 s fs w = !f0 w:=by
   show (!(fs.getD 0 fun _=>false) w)=_
   rw [z1j hf0]
  rw [hd]
  refine z0A ?_
  refine z1B (z2m [mid]) ?_
  refine z0A ?_
  rw [hc0]
  refine z0A ?_
  refine zAG (R:=z2A D mid X (f0 w)) rfl (lAL _) rfl zHd (ask1 X v0 f0 hA0 xx) ?_ ?_
  rotate_left
  ·rintro u V' ⟨hu,_⟩
   cases hu
  rintro u V1 ⟨hu,hin⟩
  cases hu
  refine ⟨hin.mod,?_⟩
  refine z0A ?_
  exact z0W rfl ⟨rfl,xi.trans hin⟩
 refine z0A ?_
 cases h12:(op==12)
 rotate_left
 ·obtain rfl:op=12:=by simpa using h12
  have:=hform.one (.inr (.inr (.inr (.inr rfl))))
  obtain ⟨v0,f0,hv0,hf0,hA0⟩:=hL.get (i:=0) (by omega)
  have hc0:=hv1 v0 (lAF hv0)
  have hd:z2S 12 s fs w=(List.range (w.length+1)).any fun i=>z0r f0 (w.drop i):=by
   show zPY (fs.getD 0 fun _=>false) w=_
   rw [z1j hf0];rfl
  rw [hd]
  refine z0A ?_
  refine z0H (w.length+1) (fun i al H'=>al=[(1,.cptr [.int .i64 num,.int .i64 12,.str s,kv]),(3,.ptr (H.length+0) 0),(5,.ptr (H.length+1) 0),(147,.int .i64 (w.length+1:Nat)),(148,.int .i64 i)]∧z0m D mid X H'∧((List.range i).any fun i=>z0r f0 (w.drop i))=false) ⟨rfl,xx,rfl⟩ ?_
  rintro i _ V hi ⟨rfl,vi,v1⟩
  have e1:decide ((i:Int)<((w.length+1:Nat):Int))=decide (i<w.length+1):=by simp only [lAP];omega
  have y3:=vi.old n3 x3
  have y5:=vi.old n5 x5
  refine z0A ?_
  rw [e1]
  cases hc:decide (i<w.length+1)
  ·simp only [lAC] at hc
   obtain rfl:i=w.length+1:=by omega
   refine z0A ?_
   exact z0W rfl ⟨by rw [v1];rfl,xi.trans vi⟩
  simp only [lAE] at hc
  refine z0A ?_
  refine z1B (z2m [mid]) ?_
  refine z0A ?_
  rw [hc0]
  refine z0A ?_
  refine z4g (R:=z2A D mid V (z0r f0 (w.drop i))) rfl (lAL _) rfl (a65 hA0 (by simp;omega) (xa.to vi)) ?_ ?_
  rotate_left
  ·rintro u V' ⟨hu,_⟩
   cases hu
  rintro u V1 ⟨hu,hin⟩
  cases hu
  refine ⟨hin.mod,?_⟩
  have vi2:=vi.trans hin
  cases hb:z0r f0 (w.drop i)
  ·refine z0A ?_
   exact ⟨by omega,rfl,vi2,z2r v1 hb⟩
  ·refine z0A ?_
   exact z0W rfl ⟨by rw [z3t (i:=i) hc hb];rfl,xi.trans vi2⟩
 refine z0A ?_
 cases h14:(op==14)
 rotate_left
 ·obtain rfl:op=14:=by simpa using h14
  have:=hform.three rfl
  match vs,fs,hL,this,hk,hv1 with
  | x::y::z::r,f::g::h::r',hL,_,hk,hv1 =>
   have hd:z2S 14 s (f::g::h::r') w=zFg f g h w:=rfl
   rw [hd]
   refine z0A ?_
   refine z0L rfl (a244 hk (hv1 x (by simp)) (hv1 y (by simp)) (hv1 z (by simp)) (hL.2 0 x f rfl rfl) (hL.2 1 y g rfl rfl) (hL.2 2 z h rfl rfl) hw xa) ?_ ?_
   ·rintro u V1 ⟨hu,hin⟩
    cases hu
    refine z0A ?_
    exact z0W rfl ⟨rfl,xi.trans hin⟩
   ·rintro u V' ⟨hu,_⟩
    cases hu
  | x::y::z::r,[],hL,_,_,_=>exact absurd hL.1 (by simp)
  | x::y::z::r,[_],hL,_,_,_=>exact absurd hL.1 (by simp)
  | x::y::z::r,[_,_],hL,_,_,_=>exact absurd hL.1 (by simp)
 refine z0A ?_
 have h13:(op==13)=false:=by simpa using hform.no13
 have h15:(op==15)=false:=by simpa using hform.no15
 rw [h13]
 refine z0A ?_
 refine z0W rfl ⟨?_,xi⟩
 have hd:z2S op s fs w=false:=by
  unfold z2S
  simp only [z2E h0,z2E h1,z2E h2,z2E h4,z2E h5,z2E h6,z2E h7,z2E h8,z2E h9,z2E h10,z2E h11,z2E h12,z2E h14,if_false]
 rw [hd];rfl
end
theorem zBK:∀ e:Ex,z0N (enc e)
 | .mk op s nl l=>by
  have ih:∀ x∈l,z0N (enc x):=fun x hx=>zBK x
  rw [z0e]
  refine z0N.agg fun x hx=>?_
  simp only [lAV,lA7,or_false] at hx
  rcases hx with rfl | rfl | rfl
  ·exact z0N.int _ _
  ·exact z0N.str _
  ·unfold lst
   split
   ·exact z0N.nilslice
   ·exact z0N.list _ fun y hy=>by obtain ⟨e,he,rfl⟩:=lBB.1 hy;exact ih e he
termination_by e=>e.w
decreasing_by
 have:=zEm hx
 simp only [Ex.w];omega
theorem VV.wi {ios:List IOper} {H:z0B} {al:AL} {K:KL} {Qp:AL→AV→z0B→Prop} (h:VV PP ios al H K Qp):z7W PP ios al H K Qp:=h.1
abbrev Z0:Ex:=.mk 0 [] true []
section steps
variable {P:Program} {H G:z0B} {al:AL} {K:KL} {Qp:AL→AV→z0B→Prop} {os:List IOper} {d:Nat} {x y z:Arg}
end steps
theorem z0N.of_agg {l:List AV} (h:z0N (.agg l)):∀ x∈l,z0N x:=by
 obtain ⟨n,hn⟩:=h
 cases n with
 | zero=>cases hn
 | succ n=>exact fun x hx=>⟨n,lAZ.1 hn x hx⟩
theorem zBJ:∀ E:List Ex,z0N (.agg (zHg E))
 | []=>⟨1,rfl⟩
 | .mk a b c d::E=>by
  have h1:=zBJ E
  have h2:=zBK (.mk a b c d)
  rw [z0e] at h2
  have e:zHg (.mk a b c d::E)=[.int .i64 a,.str b,lst c d]++zHg E:=by rw [←zBd,←zGQ];rfl
  rw [e]
  refine z0N.agg fun x hx=>?_
  rcases lA5.1 hx with hx | hx
  ·exact h2.of_agg x hx
  ·exact h1.of_agg x hx
def zRs (sz lo:Nat) (H':z0B) (v:AV) (l:List AV):Prop :=
 (∀ x∈l,x.cells.length=sz)∧((l=[]∧v=.nilslice)∨∃ id,v=.sl id 0 l.length sz∧H'[id]? =some (.cells (z0d l))∧lo≤id∧l≠[])
theorem zRs.nil {sz lo:Nat} {H':z0B}:zRs sz lo H' .nilslice []:=⟨by simp,.inl ⟨rfl,rfl⟩⟩
theorem zRs.mono {sz lo:Nat} {H' K:z0B} {v:AV} {l:List AV} (h:zRs sz lo H' v l) (hk:∀ (j:Nat) (b:Blk),lo≤j→H'[j]? =some b→K[j]? =some b):zRs sz lo K v l:=by
 obtain ⟨h0,h⟩:=h
 refine ⟨h0,?_⟩
 rcases h with h | ⟨id,a,b,c,d⟩
 ·exact .inl h
 ·exact .inr ⟨id,a,hk _ _ c b,c,d⟩
theorem zRs.app {sz lo:Nat} {H':z0B} {v:AV} {l:List AV} (h:zRs sz lo H' v l) (G:z0B):zRs sz lo (H'++G) v l:=h.mono fun _ _ _ h=>z0G h
section steps
variable {P:Program} {H G:z0B} {al:AL} {K:KL} {Qp:AL→AV→z0B→Prop} {os:List IOper} {d:Nat} {x y z:Arg}
end steps
theorem zQK (p:Pl):z0N (z1L p):=by
 obtain ⟨⟨a,b,c,d⟩,⟨a',b',c',d'⟩⟩:=p
 have:=zBJ [.mk a b c d,.mk a' b' c' d']
 rw [show ([Ex.mk a b c d,.mk a' b' c' d']:List Ex)=[Ex.mk a b c d]++[Ex.mk a' b' c' d'] from rfl,zGQ,zBd,zBd] at this
 exact this
def nps:Nat→List Pr→Nat
 | n,[]=>n
 | n,p::ps=>if n≤24000 then nps (n+nww (nww 0 p.a.l) p.b.l) ps else n
def nls:Nat→List Pl→Nat
 | n,[]=>n
 | n,p::ps=>if n≤24000 then nls (n+(nf p.1+nf p.2)) ps else n
def zKt (r:Ru):Bool:=decide ((nls (nps (r.pairs.length+r.places.length) r.pairs) r.places:Int)>24000)
theorem zUN {a b:List Bt} (ha:okT a) (hb:okT b):nww (nww 0 a) b≤2000000000000:=by
 have h1:=zMz (0+a.length) a
 have h2:=zMz (nww 0 a+b.length) b
 have e1:nww 0 a=nw (0+a.length) a:=rfl
 have e2:nww (nww 0 a) b=nw (nww 0 a+b.length) b:=rfl
 omega
theorem c10 (r:Ru) (hr:okR r) (ht:∀ p∈r.pairs,okT p.a.l∧okT p.b.l) (H:z0B):z0C PP 5 [z6F r] H (z1D H (.bool (zKt r))):=by
 obtain ⟨kind,pn,pairs,ln,places,below⟩:=r
 obtain ⟨hnp,hnl,hps,hls⟩:=hr
 simp only at hnp hnl hps hls ht
 have hsp:=zCB pn pairs
 have hsl:=zHF ln places
 have hlp:(pairs.map z2e).length=pairs.length:=lAD _
 have hll:(places.map z1L).length=places.length:=lAD _
 have hv:zKt ⟨kind,pn,pairs,ln,places,below⟩=decide ((nls (nps (pairs.length+places.length) pairs) places:Int)>24000):=rfl
 rw [hv]
 unfold z6F
 refine z0C.gives (is5.c1 z0P mixed rfl ?_)
 refine z0F ?_
 refine z1N (a:=(pairs.map z2e).length) (b:=(places.map z1L).length) (by rfl) (by rfl) (by omega) ?_
 rw [hlp,hll]
 refine z0F ?_
 refine z0H pairs.length (fun i al H'=>∃ n:Nat,al=[(1,.ptr (H.length+0) 0),(3,.int .i64 n),(4,.int .i64 i)]∧Ext H H'∧H'[H.length+0]? =some (.cells [.int .i64 kind,z0T pn pairs,z0U ln places,.bool below]) ∧
  n≤3000000000000∧nps (pairs.length+places.length) pairs=nps n (pairs.drop i)) ⟨_,rfl,⟨_,rfl⟩,z1S,by omega,rfl⟩ ?_
 rintro i _ H1 hi ⟨n,rfl,hx,hB,hnb,hvp⟩
 have hlt0:H.length+0<H1.length:=(lAA.1 hB).1
 have hokp:∀ off,zHQ H1.length (.ptr (H.length+0) off)=true:=by intro off;simp [zHQ,lDT];simpa using hlt0
 refine z0F ?_
 cases hc:decide ((i:Int)<((pairs.map z2e).length:Int))
 ·simp only [lAC] at hc
  rw [lDE (by omega)] at hvp
  have hvp:nps (pairs.length+places.length) pairs=n:=hvp
  rw [hvp]
  clear hvp hlt0 hokp
  refine z0F ?_
  refine z0H places.length (fun i al H'=>∃ n2:Nat,al=[(1,.ptr (H.length+0) 0),(3,.int .i64 n2),(5,.int .i64 i)]∧H'=H1∧n2≤3000000000000∧nls n places=nls n2 (places.drop i)) ⟨_,rfl,rfl,hnb,rfl⟩ ?_
  rintro i _ _ hi ⟨n2,rfl,rfl,hnb2,hvp⟩
  refine z0F ?_
  cases hc:decide ((i:Int)<((places.map z1L).length:Int))
  ·simp only [lAC] at hc
   rw [lDE (by omega)] at hvp
   have hvp:nls n places=n2:=hvp
   rw [hvp]
   refine z0F ?_
   exact z0W rfl (z0b hx (z0N.bool _))
  ·simp only [lAE] at hc
   obtain ⟨c,hcg⟩:=z0M (l:=places) (i:=i) (by omega)
   have hok:=hls _ (lAF hcg)
   have hu:=z1A (f:=z1L) hcg
   rw [z2a hcg] at hvp
   simp only [nls] at hvp
   refine z0F ?_
   refine z0R _ rfl ?_ ?_<;>intro hq
   ·simp only [lAE] at hq
    rw [if_pos (by omega)] at hvp
    have k1:=fun H=>c25 c.1 hok.1 H
    have k2:=fun H=>c25 c.2 hok.2 H
    have b1:=zQW c.1
    have b2:=zQW c.2
    unfold okE at hok
    generalize nf c.1=f1 at *
    generalize nf c.2=f2 at *
    obtain ⟨⟨o1,s1,n1,l1⟩,⟨o2,s2,n2',l2⟩⟩:=c
    unfold z1L at hu
    simp only [z0e] at k1 k2 hu
    refine z0F ?_
    refine z0J rfl (k1 _) ?_
    refine z0F ?_
    refine z0J rfl (k2 _) ?_
    refine z0F ?_
    refine z1N (a:=f1) (b:=f2) (by rfl) (by rfl) (by omega) ?_
    refine z0F ?_
    refine z1N (a:=n2) (b:=f1+f2) (by rfl) (by rfl) (by omega) ?_
    refine z0F ?_
    exact ⟨by omega,_,rfl,rfl,by omega,hvp⟩
   ·simp only [lAC] at hq
    rw [if_neg (by omega)] at hvp
    rw [hvp]
    refine z0F ?_
    exact z0W rfl (z0b hx (z0N.bool _))
 ·simp only [lAE] at hc
  obtain ⟨c,hcg⟩:=z0M (l:=pairs) (i:=i) (by omega)
  have hm:=lAF hcg
  have hu:(pairs.map z2e)[i]? =some (.agg [z0X c.a,z0X c.b]):=z1A (f:=z2e) hcg
  have htc:=ht c hm
  have hwb:=zUN htc.1 htc.2
  rw [z2a hcg] at hvp
  simp only [nps] at hvp
  refine z0F ?_
  refine z0R _ rfl ?_ ?_<;>intro hq
  ·simp only [lAE] at hq
   rw [if_pos (by omega)] at hvp
   refine zTu ?_
   refine zJn H1.length ?_
   refine zLv ?_
   refine zYn rfl rfl (lAL _) ?_
   refine z0S (out:=[z0X c.a,z0X c.b]) zNe ?_
   refine zAL (zNg (.refl _) ⟨_,rfl⟩) ?_
   refine zYn rfl rfl (by simp) ?_
   refine z0J rfl (c24 htc.1 htc.2 (by rw [lAM (lAL _),lBG];rfl)) ?_
   refine zAL (fun _ _ _ _ h=>h) ?_
   generalize nww (nww 0 c.a.l) c.b.l=f1 at *
   refine zLv ?_
   refine z1N (a:=n) (b:=f1) (by rfl) (by rfl) (by omega) ?_
   refine zLv ?_
   refine z0F ?_
   exact ⟨by omega,_,rfl,hx.app _,z0G hB,by omega,hvp⟩
  ·simp only [lAC] at hq
   rw [if_neg (by omega)] at hvp
   rw [hvp]
   clear hvp hlt0 hokp
   refine z0F ?_
   refine z0H places.length (fun i al H'=>∃ n2:Nat,al=[(1,.ptr (H.length+0) 0),(3,.int .i64 n2),(5,.int .i64 i)]∧H'=H1∧n2=n) ⟨_,rfl,rfl,rfl⟩ ?_
   rintro i _ _ hi ⟨n2,rfl,rfl,rfl⟩
   have hn3:nls n2 places=n2:=by
    cases places with
    | nil=>rfl
    | cons p ps=>simp only [nls];rw [if_neg (by omega)]
   have hq3:decide ((n2:Int)≤24000)=false:=by simp only [lAC];omega
   rw [hn3]
   refine z0F ?_
   cases hc3:decide ((i:Int)<((places.map z1L).length:Int))
   ·refine z0F ?_
    exact z0W rfl (z0b hx (z0N.bool _))
   ·refine z0F ?_
    exact z0W rfl (z0b hx (z0N.bool _))
end Go.Ab
