/- Part 37 of the proof. -/
import Derived.Test.YtagcckioikbanaaGreatDoorM25
import Derived.Test.YtagcckioikbanaaGreatDoorM29
import Derived.Test.YtagcckioikbanaaGreatDoorM30
import Derived.Test.YtagcckioikbanaaGreatDoorM33
import Derived.Test.YtagcckioikbanaaGreatDoorM36
set_option linter.unusedVariables false
set_option linter.unusedSimpArgs false
namespace Go.Ab
open Go
set_option maxRecDepth 100000
set_option maxHeartbeats 8000000
theorem z6b {g:Nat→Bool} {i:Nat} (h:(List.range i).all g=true) (h2:g i=true):(List.range (i+1)).all g=true:=by
 rw [lCS,List.all_append,h];simp [h2]
theorem z4F {g:Nat→Bool} {i n:Nat} (h:i<n) (h2:g i=false):(List.range n).all g=false:=by
 rw [List.all_eq_false]
 exact ⟨i,lAZ.2 h,by simp [h2]⟩
theorem zNM {g:Nat→Bool} {i:Nat} (h:∀ k,k<i→g k=true):(List.range i).all g=true:=by
 rw [lAX]
 intro k hk
 exact h k (lAZ.1 hk)
def zJr (f g h:Bt→Bool) (w:Bt) (i k:Nat):Bool:=!(decide (i≤k)&&f (sub w i k))||(z2u g (w.take i)&&z0g h (w.drop k))
theorem a244 {D:Nat→Bt→Bool} {aid mid num:Nat} {op:Int} {s:Bt} {kv x y z:AV} {r:List AV} {f g h:Bt→Bool} {w:Bt} {H:z0B} (hk:Sl 1 kv (x::y::z::r)) (hx1:x.cells=[x]) (hy1:y.cells=[y]) (hz1:z.cells=[z])
  (hf:zGx D aid mid x f) (hg:zGx D aid mid y g) (hh:zGx D aid mid z h) (hw:w.length≤1000000) (ha:AskAt D aid mid H) :
  z0D PP 207 [.ptr aid 0,.cptr [.int .i64 num,.int .i64 op,.str s,kv],.str w] H (z1r D mid H (zEf f g h w)):=by
 refine zTn.c3 z0R mixed rfl ?_
 rw [lAK]
 have hml:=ha.mlt
 have hal:=ha.lt
 show WI _ _ (z3m _ (z1r D mid H ((List.range (w.length+1)).all fun i=>(List.range (w.length+1)).all (zJr f g h w i)))) _ _
 refine z0A ?_
 refine z0F (w.length+1) (fun i al H'=>al=[(0,.ptr aid 0),(1,.cptr [.int .i64 num,.int .i64 op,.str s,kv]),(2,.str w),(11,.int .i64 (w.length+1:Nat)),(12,.int .i64 i)]∧z0n D mid H H'∧((List.range i).all fun i=>(List.range (w.length+1)).all (zJr f g h w i))=true) ⟨rfl,ha.inn,rfl⟩ ?_
 rintro i _ V hi ⟨rfl,vi,v1⟩
 have e1:decide ((i:Int)<((w.length+1:Nat):Int))=decide (i<w.length+1):=by simp only [lAP];omega
 refine z0A ?_
 rw [e1]
 cases hc:decide (i<w.length+1)
 ·simp only [lAC] at hc
  obtain rfl:i=w.length+1:=by omega
  refine z0A ?_
  exact z0Y rfl ⟨by rw [v1];rfl,vi⟩
 simp only [lAD] at hc
 refine z0A ?_
 refine z0F (w.length+1) (fun j al H'=>al=[(0,.ptr aid 0),(1,.cptr [.int .i64 num,.int .i64 op,.str s,kv]),(2,.str w),(7,.int .i64 i),(8,.int .i64 (i+j:Nat)),(11,.int .i64 (w.length+1:Nat)),(12,.int .i64 i)]∧z0n D mid H H'∧(List.range (i+j)).all (zJr f g h w i)=true) ⟨rfl,vi,zNM fun k hk=>by
  have:¬ i≤k:=by omega
  simp [zJr,this]⟩ ?_
 clear vi V
 rintro j _ V hj ⟨rfl,vi,v2⟩
 have e2:decide (((i+j:Nat):Int)≤(w.length:Int))=decide (i+j≤w.length):=by simp only [lAP];omega
 refine z0A ?_
 rw [e2]
 cases hk:decide (i+j≤w.length)
 ·simp only [lAC] at hk
  refine z0A ?_
  refine ⟨hc,rfl,vi,z6b v1 ?_⟩
  have:i+j=w.length+1∨w.length+1≤i+j:=by omega
  rw [lAX] at v2 ⊢
  intro k hk
  exact v2 k (lAZ.2 (by have:=lAZ.1 hk;omega))
 simp only [lAD] at hk
 have hgx:(x::y::z::r)[0]? =some x:=rfl
 have hgy:(x::y::z::r)[1]? =some y:=rfl
 have hgz:(x::y::z::r)[2]? =some z:=rfl
 have hVl:=vi.len
 refine z0A ?_
 refine z1f (z2h [mid]) ?_
 refine z0A ?_
 rw [hx1]
 refine z0A ?_
 refine z7Z (s:=w) (a:=i) (b:=i+j) rfl rfl (z8K (by omega) hk) ?_
 refine z6x ?_
 have hP:zJr f g h w i (i+j)=(!f (sub w i (i+j))||(z2u g (w.take i)&&z0g h (w.drop (i+j)))):=by
  have:i≤i+j:=by omega
  simp [zJr,this]
 refine z5B (R:=z1r D mid V (f (sub w i (i+j)))) rfl (lAL _) rfl (hf V _ (by simp;omega) (ha.to vi)) ?_ ?_
 rotate_left
 ·rintro u V' ⟨hu,_⟩
  cases hu
 rintro u V1 ⟨hu,hin⟩
 cases hu
 refine ⟨hin.mod,?_⟩
 have vi1:=vi.trans hin
 have hV1:=hin.len
 cases hb:f (sub w i (i+j))
 ·rw [hb] at hP
  refine z0A ?_
  refine zDn rfl hV1 rfl rfl ?_
  refine z0A ?_
  refine zKq rfl hV1 rfl ?_
  refine z0A ?_
  exact ⟨by omega,rfl,vi1,z6b v2 hP⟩
 rw [hb,lDL,lCL] at hP
 refine z0A ?_
 rw [hy1]
 refine z0A ?_
 refine z7V (R:=z1r D mid V1 (z2u g (w.take i))) rfl hV1 rfl rfl (a63 hg (by simp;omega) (ha.to vi1)) ?_ ?_
 rotate_left
 ·rintro u V' ⟨hu,_⟩
  cases hu
 rintro u V2 ⟨hu,hin2⟩
 cases hu
 refine ⟨hin2.mod,?_⟩
 have vi2:=vi1.trans hin2
 have hV2:=hin2.len
 cases hb2:z2u g (w.take i)
 ·rw [hb2,lD8] at hP
  refine z0A ?_
  refine zDn rfl (lBM hV1 hV2) rfl rfl ?_
  refine z0A ?_
  exact z0Y rfl ⟨by rw [z4F hc (z4F (i:=i+j) (by omega) hP)];rfl,vi2⟩
 rw [hb2,lCT] at hP
 refine z0A ?_
 rw [hz1]
 refine z0A ?_
 refine z7V (R:=z1r D mid V2 (z0g h (w.drop (i+j)))) rfl (lBM hV1 hV2) rfl rfl (a65 hh (by simp;omega) (ha.to vi2)) ?_ ?_
 rotate_left
 ·rintro u V' ⟨hu,_⟩
  cases hu
 rintro u V3 ⟨hu,hin3⟩
 cases hu
 refine ⟨hin3.mod,?_⟩
 have vi3:=vi2.trans hin3
 cases hb3:z0g h (w.drop (i+j))
 ·rw [hb3] at hP
  refine z0A ?_
  exact z0Y rfl ⟨by rw [z4F hc (z4F (i:=i+j) (by omega) hP)];rfl,vi3⟩
 ·rw [hb3] at hP
  refine z0A ?_
  exact ⟨by omega,rfl,vi3,z6b v2 hP⟩
structure Form (op:Int) (n:Nat):Prop where
 one:op=8∨op=9∨op=10∨op=11∨op=12→1≤n
 two:op=7→2≤n
 three:op=14→3≤n
 no13:op≠13
 no15:op≠15
theorem z1Z {α:Type} {l:List α} {i:Nat} {x d:α} (h:l[i]? =some x):l.getD i d=x:=by rw [lAB,h];rfl
theorem z7K (w:Bt):(w==[])=w.isEmpty:=by cases w<;>rfl
theorem zCV {α:Type} (l:List α) (g:α→Bool):(l.map g).any id=l.any g:=by rw [List.any_map];rfl
theorem z1u {a b:Int} (h:(a==b)=false):a≠b:=by simpa using h
section
variable {D:Nat→Bt→Bool} {aid mid:Nat}
theorem zQL.get {vs:List AV} {fs:List (Bt→Bool)} (h:zQL D aid mid vs fs) {i:Nat} (hi:i<vs.length):∃ v f,vs[i]? =some v∧fs[i]? =some f∧zGx D aid mid v f:=by
 obtain ⟨v,hv⟩:=z0M (l:=vs) (i:=i) hi
 obtain ⟨f,hf⟩:=z0M (l:=fs) (i:=i) (by rw [←h.1];exact hi)
 exact ⟨v,f,hv,hf,h.2 i v f hv hf⟩
theorem a194 {num:Nat} {op:Int} {s:Bt} {kv:AV} {vs:List AV} {fs:List (Bt→Bool)} {w:Bt} {H:z0B} (hk:Sl 1 kv vs) (hv1:∀ v∈vs,v.cells=[v]) (hL:zQL D aid mid vs fs) (hn:vs.length≤1000000) (hform:Form op vs.length)
  (hw:w.length≤1000000) (ha:AskAt D aid mid H):z0D PP 162 [.ptr aid 0,.cptr [.int .i64 num,.int .i64 op,.str s,kv],.str w] H (z1r D mid H (z2C op s fs w)):=by
 refine zUH.c3 z0R mixed rfl ?_
 have hml:=ha.mlt
 have hal:=ha.lt
 have hlen:=hL.1
 refine z0A ?_
 show VV _ _ _ (H++[Blk.cells [.ptr aid 0],.cells [.str w]]) _ _
 refine z6h (vs:=[.ptr (H.length+0) 0,.ptr (H.length+1) 0]) rfl ?_
 refine z0A ?_
 refine z0k (.clo (.func 202) [] [.ptr (H.length+0) 0,.ptr (H.length+1) 0]) rfl rfl z0K rfl rfl (H':=H++[Blk.cells [.ptr aid 0],.cells [.str w]]++[.cells [.clo (.func 202) [] [.ptr (H.length+0) 0,.ptr (H.length+1) 0]]]) (by rw [lBC _ _ (lAL _),lBJ];rfl) ?_
 have x7:(H++[Blk.cells [.ptr aid 0],.cells [.str w]]++[.cells [.clo (.func 202) [] [.ptr (H.length+0) 0,.ptr (H.length+1) 0]]])[(H++[Blk.cells [.ptr aid 0],.cells [.str w]]:z0B).length]? =some (.cells [.clo (.func 202) [] [.ptr (H.length+0) 0,.ptr (H.length+1) 0]]):=z0K
 have x3:(H++[Blk.cells [.ptr aid 0],.cells [.str w]]++[.cells [.clo (.func 202) [] [.ptr (H.length+0) 0,.ptr (H.length+1) 0]]])[H.length+0]? =some (.cells [.ptr aid 0]):=by
  rw [lA2];exact z1R
 have x5:(H++[Blk.cells [.ptr aid 0],.cells [.str w]]++[.cells [.clo (.func 202) [] [.ptr (H.length+0) 0,.ptr (H.length+1) 0]]])[H.length+1]? =some (.cells [.str w]):=by
  rw [lA2];exact z1R
 have xi:=(ha.inn.app [Blk.cells [.ptr aid 0],.cells [.str w]]).app [.cells [.clo (.func 202) [] [.ptr (H.length+0) 0,.ptr (H.length+1) 0]]]
 have hl7:(H++[Blk.cells [.ptr aid 0],.cells [.str w]]:z0B).length=H.length+2:=by simp
 rw [hl7] at x7
 rw [hl7]
 generalize (H++[Blk.cells [.ptr aid 0],.cells [.str w]]++[.cells [.clo (.func 202) [] [.ptr (H.length+0) 0,.ptr (H.length+1) 0]]]:z0B)=X at *
 have n3:H.length+0≠mid:=by omega
 have n5:H.length+1≠mid:=by omega
 have n7:H.length+2≠mid:=by omega
 have xa:=ha.to xi
 have xx:=xi.self
 have ask1:∀ (H':z0B) (v:AV) (f:Bt→Bool),zGx D aid mid v f→z0n D mid X H'→z0D PP 202 ([]++[v]++[.ptr (H.length+0) 0,.ptr (H.length+1) 0]) H' (z1r D mid H' (f w)):=fun H' v f hf hin =>
  a239 hf hw (xa.to hin) (hin.old n3 x3) (hin.old n5 x5)
 have hlX:=xi.len
 have each:∀ {g:(Bt→Bool)→Bool} {i:Nat} {v:AV} {b:Bool},vs[i]? =some v→(fs.map g)[i]? =some b→∃ f,zGx D aid mid v f∧b=g f:=fun {g i v b} hv hb=>by
  rw [lAM] at hb
  obtain ⟨f,hf⟩:=z0M (l:=fs) (i:=i) (by have:=(lAA.1 hv).1;omega)
  rw [hf] at hb
  injection hb with hb
  exact ⟨f,hL.2 i v f hv hf,hb.symm⟩
 have kOr:z0D PP 204 [kv,.clo (.func 202) [] [.ptr (H.length+0) 0,.ptr (H.length+1) 0]] X (z1r D mid X (fs.any fun f=>f w)):=by
  have k:=a241 (bs:=fs.map fun f=>f w) (caps:=[.ptr (H.length+0) 0,.ptr (H.length+1) 0]) (g:=202) hk hv1 (by rw [lAE];exact hlen) hn zGa xx (fun H' i v b hin hv hb=>by
   obtain ⟨f,hf,rfl⟩:=each hv hb
   exact ask1 H' v f hf hin)
  rw [zCV] at k;exact k
 have kAnd:z0D PP 204 [kv,.clo (.func 205) [] [.ptr (H.length+2) 0]] X (z1r D mid X (fs.any fun f=>!f w)):=by
  have k:=a241 (bs:=fs.map fun f=>!f w) (caps:=[.ptr (H.length+2) 0]) (g:=205) hk hv1 (by rw [lAE];exact hlen) hn zZU xx (fun H' i v b hin hv hb=>by
   obtain ⟨f,hf,rfl⟩:=each hv hb
   exact a242 (hin.old n7 x7) (ask1 H' v f hf hin))
  rw [zCV] at k;exact k
 refine z0A ?_
 cases h0:(op==0)
 rotate_left
 ·obtain rfl:op=0:=by simpa using h0
  refine z0A ?_
  exact z0Y rfl ⟨rfl,xi⟩
 refine z0A ?_
 cases h1:(op==1)
 rotate_left
 ·obtain rfl:op=1:=by simpa using h1
  refine z0A ?_
  exact z0Y rfl ⟨rfl,xi⟩
 refine z0A ?_
 cases h2:(op==2)
 rotate_left
 ·obtain rfl:op=2:=by simpa using h2
  refine z0A ?_
  exact z0Y rfl ⟨by show ARes.ret (.bool (w==[]))=.ret (.bool w.isEmpty);rw [z7K],xi⟩
 refine z0A ?_
 cases h4:(op==4)
 rotate_left
 ·obtain rfl:op=4:=by simpa using h4
  refine z0A ?_
  refine z1f (z2h [mid]) ?_
  refine z0A ?_
  refine z5B (R:=z1r D mid X (zAz fs w)) rfl (lAL _) rfl (a240 hk hv1 hL hn hw xa) ?_ ?_
  rotate_left
  ·rintro u V' ⟨hu,_⟩
   cases hu
  rintro u V1 ⟨hu,hin⟩
  cases hu
  refine ⟨hin.mod,?_⟩
  refine z0A ?_
  exact z0Y rfl ⟨rfl,xi.trans hin⟩
 refine z0A ?_
 cases h5:(op==5)
 rotate_left
 ·obtain rfl:op=5:=by simpa using h5
  refine z0A ?_
  refine z1f (z2h [mid]) ?_
  refine z0A ?_
  refine z5B (R:=z1r D mid X (fs.any fun f=>f w)) rfl (lAL _) rfl kOr ?_ ?_
  rotate_left
  ·rintro u V' ⟨hu,_⟩
   cases hu
  rintro u V1 ⟨hu,hin⟩
  cases hu
  refine ⟨hin.mod,?_⟩
  refine z0A ?_
  exact z0Y rfl ⟨rfl,xi.trans hin⟩
 refine z0A ?_
 cases h6:(op==6)
 rotate_left
 ·obtain rfl:op=6:=by simpa using h6
  refine z0A ?_
  refine z6h (vs:=[.ptr (H.length+2) 0]) rfl ?_
  refine z0L (R:=z1r D mid X (fs.any fun f=>!f w)) rfl kAnd ?_ ?_
  rotate_left
  ·rintro u V' ⟨hu,_⟩
   cases hu
  rintro u V1 ⟨hu,hin⟩
  cases hu
  refine z0A ?_
  exact z0Y rfl ⟨by show ARes.ret (.bool (!fs.any fun f=>!f w))=.ret (.bool (fs.all fun f=>f w));rw [List.all_eq_not_any_not],xi.trans hin⟩
 refine z0A ?_
 cases h7:(op==7)
 rotate_left
 ·obtain rfl:op=7:=by simpa using h7
  have:=hform.two rfl
  obtain ⟨v0,f0,hv0,hf0,hA0⟩:=hL.get (i:=0) (by omega)
  obtain ⟨v1,f1,hv1',hf1,hA1⟩:=hL.get (i:=1) (by omega)
  have hc0:=hv1 v0 (lAF hv0)
  have hc1:=hv1 v1 (lAF hv1')
  have hd:z2C 7 s fs w=(f0 w && !f1 w):=by
   show ((fs.getD 0 fun _=>false) w && !(fs.getD 1 fun _=>false) w)=_
   rw [z1Z hf0,z1Z hf1]
  rw [hd]
  refine z0A ?_
  refine z1f (z2h [mid]) ?_
  refine z0A ?_
  rw [hc0]
  refine z0A ?_
  refine zCY (R:=z1r D mid X (f0 w)) rfl (lAL _) rfl zGa (ask1 X v0 f0 hA0 xx) ?_ ?_
  rotate_left
  ·rintro u V' ⟨hu,_⟩
   cases hu
  rintro u V1 ⟨hu,hin⟩
  cases hu
  refine ⟨hin.mod,?_⟩
  have y7:=hin.old n7 x7
  have hV1:=hin.len
  cases hb:f0 w
  ·refine z0A ?_
   refine zDn rfl hV1 rfl rfl ?_
   refine z0A ?_
   exact z0Y rfl ⟨rfl,xi.trans hin⟩
  ·refine z0A ?_
   rw [hc1]
   refine z0A ?_
   refine z9g (R:=z1r D mid V1 (f1 w)) rfl hV1 rfl rfl zGa (ask1 V1 v1 f1 hA1 hin) ?_ ?_
   rotate_left
   ·rintro u V' ⟨hu,_⟩
    cases hu
   rintro u V2 ⟨hu,hin2⟩
   cases hu
   refine ⟨hin2.mod,?_⟩
   refine z0A ?_
   exact z0Y rfl ⟨rfl,(xi.trans hin).trans hin2⟩
 refine z0A ?_
 cases h8:(op==8)
 rotate_left
 ·obtain rfl:op=8:=by simpa using h8
  have:=hform.one (.inl rfl)
  obtain ⟨v0,f0,hv0,hf0,hA0⟩:=hL.get (i:=0) (by omega)
  have hc0:=hv1 v0 (lAF hv0)
  have hd:z2C 8 s fs w=z4K f0 w:=by
   show z4K (fs.getD 0 fun _=>false) w=_
   rw [z1Z hf0]
  rw [hd]
  refine z0A ?_
  refine z1f (z2h [mid]) ?_
  refine z0A ?_
  rw [hc0]
  refine z0A ?_
  refine z5B (R:=z1r D mid X (z4K f0 w)) rfl (lAL _) rfl (a243 hA0 hw xa) ?_ ?_
  rotate_left
  ·rintro u V' ⟨hu,_⟩
   cases hu
  rintro u V1 ⟨hu,hin⟩
  cases hu
  refine ⟨hin.mod,?_⟩
  refine z0A ?_
  exact z0Y rfl ⟨rfl,xi.trans hin⟩
 refine z0A ?_
 cases h9:(op==9)
 rotate_left
 ·obtain rfl:op=9:=by simpa using h9
  have:=hform.one (.inr (.inl rfl))
  obtain ⟨v0,f0,hv0,hf0,hA0⟩:=hL.get (i:=0) (by omega)
  have hc0:=hv1 v0 (lAF hv0)
  have hd:z2C 9 s fs w=((w==[])&&f0 w || !(w==[])&&z4K f0 w):=by
   show ((w.isEmpty&&(fs.getD 0 fun _=>false) w)||(!w.isEmpty&&z4K (fs.getD 0 fun _=>false) w))=_
   rw [z1Z hf0,z7K]
  rw [hd]
  refine z0A ?_
  refine z1f (z2h [mid]) ?_
  refine z0A ?_
  cases hwe:(w==[])
  ·have hwn:(!(w==[]))=true:=by rw [hwe];rfl
   refine z0A ?_
   refine zDn rfl (lAL _) rfl rfl ?_
   refine z0A ?_
   rw [hc0]
   refine z0A ?_
   refine z7V (R:=z1r D mid X (z4K f0 w)) rfl (lAL _) (congrArg AV.bool hwn) rfl (a243 hA0 hw xa) ?_ ?_
   rotate_left
   ·rintro u V' ⟨hu,_⟩
    cases hu
   rintro u V1 ⟨hu,hin⟩
   cases hu
   refine ⟨hin.mod,?_⟩
   refine z0A ?_
   exact z0Y rfl ⟨rfl,xi.trans hin⟩
  ·have hwn:(!(w==[]))=false:=by rw [hwe];rfl
   refine z0A ?_
   rw [hc0]
   refine z0A ?_
   refine z9g (R:=z1r D mid X (f0 w)) rfl (lAL _) rfl rfl zGa (ask1 X v0 f0 hA0 xx) ?_ ?_
   rotate_left
   ·rintro u V' ⟨hu,_⟩
    cases hu
   rintro u V1 ⟨hu,hin⟩
   cases hu
   refine ⟨hin.mod,?_⟩
   have y3:=hin.old n3 x3
   have y5:=hin.old n5 x5
   have hV1:=hin.len
   cases hb:f0 w
   ·refine z0A ?_
    refine zDn rfl hV1 (congrArg AV.bool hwn) rfl ?_
    refine z0A ?_
    exact z0Y rfl ⟨rfl,xi.trans hin⟩
   ·refine z0A ?_
    refine zKq rfl hV1 rfl ?_
    refine z0A ?_
    exact z0Y rfl ⟨rfl,xi.trans hin⟩
 refine z0A ?_
 cases h10:(op==10)
 rotate_left
 ·obtain rfl:op=10:=by simpa using h10
  have:=hform.one (.inr (.inr (.inl rfl)))
  obtain ⟨v0,f0,hv0,hf0,hA0⟩:=hL.get (i:=0) (by omega)
  have hc0:=hv1 v0 (lAF hv0)
  have hd:z2C 10 s fs w=((w==[])||f0 w):=by
   show (w.isEmpty||(fs.getD 0 fun _=>false) w)=_
   rw [z1Z hf0,z7K]
  rw [hd]
  refine z0A ?_
  refine z1f (z2h [mid]) ?_
  refine z0A ?_
  cases hwe:(w==[])
  ·refine z0A ?_
   rw [hc0]
   refine z0A ?_
   refine z9g (R:=z1r D mid X (f0 w)) rfl (lAL _) rfl rfl zGa (ask1 X v0 f0 hA0 xx) ?_ ?_
   rotate_left
   ·rintro u V' ⟨hu,_⟩
    cases hu
   rintro u V1 ⟨hu,hin⟩
   cases hu
   refine ⟨hin.mod,?_⟩
   refine z0A ?_
   exact z0Y rfl ⟨rfl,xi.trans hin⟩
  ·refine z0A ?_
   refine zDn rfl (lAL _) rfl rfl ?_
   refine z0A ?_
   exact z0Y rfl ⟨rfl,xi⟩
 refine z0A ?_
 cases h11:(op==11)
 rotate_left
 ·obtain rfl:op=11:=by simpa using h11
  have:=hform.one (.inr (.inr (.inr (.inl rfl))))
  obtain ⟨v0,f0,hv0,hf0,hA0⟩:=hL.get (i:=0) (by omega)
  have hc0:=hv1 v0 (lAF hv0)
  have hd:z2C 11 s fs w = !f0 w:=by
   show (!(fs.getD 0 fun _=>false) w)=_
   rw [z1Z hf0]
  rw [hd]
  refine z0A ?_
  refine z1f (z2h [mid]) ?_
  refine z0A ?_
  rw [hc0]
  refine z0A ?_
  refine zCY (R:=z1r D mid X (f0 w)) rfl (lAL _) rfl zGa (ask1 X v0 f0 hA0 xx) ?_ ?_
  rotate_left
  ·rintro u V' ⟨hu,_⟩
   cases hu
  rintro u V1 ⟨hu,hin⟩
  cases hu
  refine ⟨hin.mod,?_⟩
  refine z0A ?_
  exact z0Y rfl ⟨rfl,xi.trans hin⟩
 refine z0A ?_
 cases h12:(op==12)
 rotate_left
 ·obtain rfl:op=12:=by simpa using h12
  have:=hform.one (.inr (.inr (.inr (.inr rfl))))
  obtain ⟨v0,f0,hv0,hf0,hA0⟩:=hL.get (i:=0) (by omega)
  have hc0:=hv1 v0 (lAF hv0)
  have hd:z2C 12 s fs w=(List.range (w.length+1)).any fun i=>z0g f0 (w.drop i):=by
   show zNX (fs.getD 0 fun _=>false) w=_
   rw [z1Z hf0];rfl
  rw [hd]
  refine z0A ?_
  refine z0F (w.length+1) (fun i al H'=>al=[(1,.cptr [.int .i64 num,.int .i64 12,.str s,kv]),(3,.ptr (H.length+0) 0),(5,.ptr (H.length+1) 0),(147,.int .i64 (w.length+1:Nat)),(148,.int .i64 i)]∧z0n D mid X H'∧((List.range i).any fun i=>z0g f0 (w.drop i))=false) ⟨rfl,xx,rfl⟩ ?_
  rintro i _ V hi ⟨rfl,vi,v1⟩
  have e1:decide ((i:Int)<((w.length+1:Nat):Int))=decide (i<w.length+1):=by simp only [lAP];omega
  have y3:=vi.old n3 x3
  have y5:=vi.old n5 x5
  refine z0A ?_
  rw [e1]
  cases hc:decide (i<w.length+1)
  ·simp only [lAC] at hc
   obtain rfl:i=w.length+1:=by omega
   refine z0A ?_
   exact z0Y rfl ⟨by rw [v1];rfl,xi.trans vi⟩
  simp only [lAD] at hc
  refine z0A ?_
  refine z1f (z2h [mid]) ?_
  refine z0A ?_
  rw [hc0]
  refine z0A ?_
  refine z5B (R:=z1r D mid V (z0g f0 (w.drop i))) rfl (lAL _) rfl (a65 hA0 (by simp;omega) (xa.to vi)) ?_ ?_
  rotate_left
  ·rintro u V' ⟨hu,_⟩
   cases hu
  rintro u V1 ⟨hu,hin⟩
  cases hu
  refine ⟨hin.mod,?_⟩
  have vi2:=vi.trans hin
  cases hb:z0g f0 (w.drop i)
  ·refine z0A ?_
   exact ⟨by omega,rfl,vi2,z3F v1 hb⟩
  ·refine z0A ?_
   exact z0Y rfl ⟨by rw [z4U (i:=i) hc hb];rfl,xi.trans vi2⟩
 refine z0A ?_
 cases h14:(op==14)
 rotate_left
 ·obtain rfl:op=14:=by simpa using h14
  have:=hform.three rfl
  match vs,fs,hL,this,hk,hv1 with
  | x::y::z::r,f::g::h::r',hL,_,hk,hv1 =>
   have hd:z2C 14 s (f::g::h::r') w=zEf f g h w:=rfl
   rw [hd]
   refine z0A ?_
   refine z0L rfl (a244 hk (hv1 x (by simp)) (hv1 y (by simp)) (hv1 z (by simp)) (hL.2 0 x f rfl rfl) (hL.2 1 y g rfl rfl) (hL.2 2 z h rfl rfl) hw xa) ?_ ?_
   ·rintro u V1 ⟨hu,hin⟩
    cases hu
    refine z0A ?_
    exact z0Y rfl ⟨rfl,xi.trans hin⟩
   ·rintro u V' ⟨hu,_⟩
    cases hu
  | x::y::z::r,[],hL,_,_,_=>exact absurd hL.1 (by simp)
  | x::y::z::r,[_],hL,_,_,_=>exact absurd hL.1 (by simp)
  | x::y::z::r,[_,_],hL,_,_,_=>exact absurd hL.1 (by simp)
 refine z0A ?_
 have h13:(op==13)=false:=by simpa using hform.no13
 have h15:(op==15)=false:=by simpa using hform.no15
 rw [h13]
 refine z0A ?_
 refine z0Y rfl ⟨?_,xi⟩
 have hd:z2C op s fs w=false:=by
  unfold z2C
  simp only [z1u h0,z1u h1,z1u h2,z1u h4,z1u h5,z1u h6,z1u h7,z1u h8,z1u h9,z1u h10,z1u h11,z1u h12,z1u h14,if_false]
 rw [hd];rfl
end
theorem zAW:∀ e:Ex,z0N (enc e)
 | .mk op s nl l=>by
  have ih:∀ x∈l,z0N (enc x):=fun x hx=>zAW x
  rw [z0a]
  refine z0N.agg fun x hx=>?_
  simp only [lAT,lA5,or_false] at hx
  rcases hx with rfl | rfl | rfl
  ·exact z0N.int _ _
  ·exact z0N.str _
  ·unfold lst
   split
   ·exact z0N.nilslice
   ·exact z0N.list _ fun y hy=>by obtain ⟨e,he,rfl⟩:=lA4.1 hy;exact ih e he
termination_by e=>e.w
decreasing_by
 have:=zDk hx
 simp only [Ex.w];omega
theorem VV.wi {ios:List IOper} {H:z0B} {al:AL} {K:KL} {Qp:AL→AV→z0B→Prop} (h:VV PP ios al H K Qp):z6v PP ios al H K Qp:=h.1
abbrev Z0:Ex:=.mk 0 [] true []
section steps
variable {P:Program} {H G:z0B} {al:AL} {K:KL} {Qp:AL→AV→z0B→Prop} {os:List IOper} {d:Nat} {x y z:Arg}
end steps
theorem z0N.of_agg {l:List AV} (h:z0N (.agg l)):∀ x∈l,z0N x:=by
 obtain ⟨n,hn⟩:=h
 cases n with
 | zero=>cases hn
 | succ n=>exact fun x hx=>⟨n,lAX.1 hn x hx⟩
theorem zAV:∀ E:List Ex,z0N (.agg (zGe E))
 | []=>⟨1,rfl⟩
 | .mk a b c d::E=>by
  have h1:=zAV E
  have h2:=zAW (.mk a b c d)
  rw [z0a] at h2
  have e:zGe (.mk a b c d::E)=[.int .i64 a,.str b,lst c d]++zGe E:=by rw [←zAn,←zFP];rfl
  rw [e]
  refine z0N.agg fun x hx=>?_
  rcases lBF.1 hx with hx | hx
  ·exact h2.of_agg x hx
  ·exact h1.of_agg x hx
def zQt (sz lo:Nat) (H':z0B) (v:AV) (l:List AV):Prop :=
 (∀ x∈l,x.cells.length=sz)∧((l=[]∧v=.nilslice)∨∃ id,v=.sl id 0 l.length sz∧H'[id]? =some (.cells (z0j l))∧lo≤id∧l≠[])
theorem zQt.nil {sz lo:Nat} {H':z0B}:zQt sz lo H' .nilslice []:=⟨by simp,.inl ⟨rfl,rfl⟩⟩
theorem zQt.mono {sz lo:Nat} {H' K:z0B} {v:AV} {l:List AV} (h:zQt sz lo H' v l) (hk:∀ (j:Nat) (b:Blk),lo≤j→H'[j]? =some b→K[j]? =some b):zQt sz lo K v l:=by
 obtain ⟨h0,h⟩:=h
 refine ⟨h0,?_⟩
 rcases h with h | ⟨id,a,b,c,d⟩
 ·exact .inl h
 ·exact .inr ⟨id,a,hk _ _ c b,c,d⟩
theorem zQt.app {sz lo:Nat} {H':z0B} {v:AV} {l:List AV} (h:zQt sz lo H' v l) (G:z0B):zQt sz lo (H'++G) v l:=h.mono fun _ _ _ h=>z0G h
section steps
variable {P:Program} {H G:z0B} {al:AL} {K:KL} {Qp:AL→AV→z0B→Prop} {os:List IOper} {d:Nat} {x y z:Arg}
end steps
theorem zPK (p:Pl):z0N (z0x p):=by
 obtain ⟨⟨a,b,c,d⟩,⟨a',b',c',d'⟩⟩:=p
 have:=zAV [.mk a b c d,.mk a' b' c' d']
 rw [show ([Ex.mk a b c d,.mk a' b' c' d']:List Ex)=[Ex.mk a b c d]++[Ex.mk a' b' c' d'] from rfl,zFP,zAn,zAn] at this
 exact this
def nps:Nat→List Pr→Nat
 | n,[]=>n
 | n,p::ps=>if n≤24000 then nps (n+nww (nww 0 p.a.l) p.b.l) ps else n
def nls:Nat→List Pl→Nat
 | n,[]=>n
 | n,p::ps=>if n≤24000 then nls (n+(nf p.1+nf p.2)) ps else n
def zJm (r:Ru):Bool:=decide ((nls (nps (r.pairs.length+r.places.length) r.pairs) r.places:Int)>24000)
theorem zTK {a b:List Bt} (ha:okT a) (hb:okT b):nww (nww 0 a) b≤2000000000000:=by
 have h1:=zLw (0+a.length) a
 have h2:=zLw (nww 0 a+b.length) b
 have e1:nww 0 a=nw (0+a.length) a:=rfl
 have e2:nww (nww 0 a) b=nw (nww 0 a+b.length) b:=rfl
 omega
theorem c10 (r:Ru) (hr:okR r) (ht:∀ p∈r.pairs,okT p.a.l∧okT p.b.l) (H:z0B):z0D PP 5 [z6e r] H (z1A H (.bool (zJm r))):=by
 obtain ⟨kind,pn,pairs,ln,places,below⟩:=r
 obtain ⟨hnp,hnl,hps,hls⟩:=hr
 simp only at hnp hnl hps hls ht
 have hsp:=zEB pn pairs
 have hsl:=zGB ln places
 have hlp:(pairs.map z2W).length=pairs.length:=lAE _
 have hll:(places.map z0x).length=places.length:=lAE _
 have hv:zJm ⟨kind,pn,pairs,ln,places,below⟩=decide ((nls (nps (pairs.length+places.length) pairs) places:Int)>24000):=rfl
 rw [hv]
 unfold z6e
 refine z0D.gives (is5.c1 z0R mixed rfl ?_)
 refine z0E ?_
 refine z2A (a:=(pairs.map z2W).length) (b:=(places.map z0x).length) (by rfl) (by rfl) (by omega) ?_
 rw [hlp,hll]
 refine z0E ?_
 refine z0F pairs.length (fun i al H'=>∃ n:Nat,al=[(1,.ptr (H.length+0) 0),(3,.int .i64 n),(4,.int .i64 i)]∧Ext H H'∧H'[H.length+0]? =some (.cells [.int .i64 kind,z0T pn pairs,z0U ln places,.bool below]) ∧
  n≤3000000000000∧nps (pairs.length+places.length) pairs=nps n (pairs.drop i)) ⟨_,rfl,⟨_,rfl⟩,z1R,by omega,rfl⟩ ?_
 rintro i _ H1 hi ⟨n,rfl,hx,hB,hnb,hvp⟩
 have hlt0:H.length+0<H1.length:=(lAA.1 hB).1
 have hokp:∀ off,zGK H1.length (.ptr (H.length+0) off)=true:=by intro off;simp [zGK,lDH];simpa using hlt0
 refine z0E ?_
 cases hc:decide ((i:Int)<((pairs.map z2W).length:Int))
 ·simp only [lAC] at hc
  rw [lCG (by omega)] at hvp
  have hvp:nps (pairs.length+places.length) pairs=n:=hvp
  rw [hvp]
  clear hvp hlt0 hokp
  refine z0E ?_
  refine z0F places.length (fun i al H'=>∃ n2:Nat,al=[(1,.ptr (H.length+0) 0),(3,.int .i64 n2),(5,.int .i64 i)]∧H'=H1∧n2≤3000000000000∧nls n places=nls n2 (places.drop i)) ⟨_,rfl,rfl,hnb,rfl⟩ ?_
  rintro i _ _ hi ⟨n2,rfl,rfl,hnb2,hvp⟩
  refine z0E ?_
  cases hc:decide ((i:Int)<((places.map z0x).length:Int))
  ·simp only [lAC] at hc
   rw [lCG (by omega)] at hvp
   have hvp:nls n places=n2:=hvp
   rw [hvp]
   refine z0E ?_
   exact z0Y rfl (z0W hx (z0N.bool _))
  ·simp only [lAD] at hc
   obtain ⟨c,hcg⟩:=z0M (l:=places) (i:=i) (by omega)
   have hok:=hls _ (lAF hcg)
   have hu:=z0q (f:=z0x) hcg
   rw [z2Q hcg] at hvp
   simp only [nls] at hvp
   refine z0E ?_
   refine z0Q _ rfl ?_ ?_<;>intro hq
   ·simp only [lAD] at hq
    rw [if_pos (by omega)] at hvp
    have k1:=fun H=>c25 c.1 hok.1 H
    have k2:=fun H=>c25 c.2 hok.2 H
    have b1:=zPU c.1
    have b2:=zPU c.2
    unfold okE at hok
    generalize nf c.1=f1 at *
    generalize nf c.2=f2 at *
    obtain ⟨⟨o1,s1,n1,l1⟩,⟨o2,s2,n2',l2⟩⟩:=c
    unfold z0x at hu
    simp only [z0a] at k1 k2 hu
    refine z0E ?_
    refine z0H rfl (k1 _) ?_
    refine z0E ?_
    refine z0H rfl (k2 _) ?_
    refine z0E ?_
    refine z2A (a:=f1) (b:=f2) (by rfl) (by rfl) (by omega) ?_
    refine z0E ?_
    refine z2A (a:=n2) (b:=f1+f2) (by rfl) (by rfl) (by omega) ?_
    refine z0E ?_
    exact ⟨by omega,_,rfl,rfl,by omega,hvp⟩
   ·simp only [lAC] at hq
    rw [if_neg (by omega)] at hvp
    rw [hvp]
    refine z0E ?_
    exact z0Y rfl (z0W hx (z0N.bool _))
 ·simp only [lAD] at hc
  obtain ⟨c,hcg⟩:=z0M (l:=pairs) (i:=i) (by omega)
  have hm:=lAF hcg
  have hu:(pairs.map z2W)[i]? =some (.agg [z0X c.a,z0X c.b]):=z0q (f:=z2W) hcg
  have htc:=ht c hm
  have hwb:=zTK htc.1 htc.2
  rw [z2Q hcg] at hvp
  simp only [nps] at hvp
  refine z0E ?_
  refine z0Q _ rfl ?_ ?_<;>intro hq
  ·simp only [lAD] at hq
   rw [if_pos (by omega)] at hvp
   refine zSp ?_
   refine zHr H1.length ?_
   refine zKp ?_
   refine zXX rfl rfl (lAL _) ?_
   refine z0Z (out:=[z0X c.a,z0X c.b]) zMd ?_
   refine z9Q (zMf (.refl _) ⟨_,rfl⟩) ?_
   refine zXX rfl rfl (by simp) ?_
   refine z0H rfl (c24 htc.1 htc.2 (by rw [lAJ (lAL _),lBJ];rfl)) ?_
   refine z9Q (fun _ _ _ _ h=>h) ?_
   generalize nww (nww 0 c.a.l) c.b.l=f1 at *
   refine zKp ?_
   refine z2A (a:=n) (b:=f1) (by rfl) (by rfl) (by omega) ?_
   refine zKp ?_
   refine z0E ?_
   exact ⟨by omega,_,rfl,hx.app _,z0G hB,by omega,hvp⟩
  ·simp only [lAC] at hq
   rw [if_neg (by omega)] at hvp
   rw [hvp]
   clear hvp hlt0 hokp
   refine z0E ?_
   refine z0F places.length (fun i al H'=>∃ n2:Nat,al=[(1,.ptr (H.length+0) 0),(3,.int .i64 n2),(5,.int .i64 i)]∧H'=H1∧n2=n) ⟨_,rfl,rfl,rfl⟩ ?_
   rintro i _ _ hi ⟨n2,rfl,rfl,rfl⟩
   have hn3:nls n2 places=n2:=by
    cases places with
    | nil=>rfl
    | cons p ps=>simp only [nls];rw [if_neg (by omega)]
   have hq3:decide ((n2:Int)≤24000)=false:=by simp only [lAC];omega
   rw [hn3]
   refine z0E ?_
   cases hc3:decide ((i:Int)<((places.map z0x).length:Int))
   ·refine z0E ?_
    exact z0Y rfl (z0W hx (z0N.bool _))
   ·refine z0E ?_
    exact z0Y rfl (z0W hx (z0N.bool _))
end Go.Ab
