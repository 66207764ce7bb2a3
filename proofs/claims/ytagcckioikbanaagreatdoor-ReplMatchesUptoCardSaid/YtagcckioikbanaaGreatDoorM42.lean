/- Part 42 of the proof. -/
import Derived.Test.YtagcckioikbanaaGreatDoorM37
import Derived.Test.YtagcckioikbanaaGreatDoorM40
import Derived.Test.YtagcckioikbanaaGreatDoorM41
set_option linter.unusedVariables false
set_option linter.unusedSimpArgs false
namespace Go.Ab
open Go
set_option maxRecDepth 100000
set_option maxHeartbeats 16000000
theorem z5S {sz:Nat} {v:AV} {xs:List AV} (h:Sl sz v xs):v.shaped=true∧v.cells=[v]∧AV.scalar v=true:=by
 cases h<;>exact ⟨rfl,rfl,rfl⟩
theorem zNn {f:List Bt→Bool} {w:List Bt} (h:f w=true) (hw:w≠[]):z4K f w=true:=by
 have hl:0<w.length:=lD4.2 hw
 have key:∀ i,(z3Q f w (i+1)).getD w.length false=true:=by
  intro i
  induction i with
  | zero =>
   have hlen:(z8h w.length)[w.length]? =some ((z8h w.length).getD w.length false):=z3D (by simp [z8h])
   have h0:sub w 0 w.length=w:=by unfold sub;simp
   show (zCs f w ((z8h w.length).getD 0 false) (0+1) 0 (z8h w.length)).getD w.length false=true
   unfold zCs
   rw [lAB,List.getElem?_mapIdx,hlen,lBH,lB1,h0,h]
   have:decide (0+1≤w.length)=true:=by rw [lAD];omega
   rw [this]
   simp [z8h]
  | succ i ih =>
   have hlen:(z3Q f w (i+1))[w.length]? =some ((z3Q f w (i+1)).getD w.length false):=z3D (by rw [z4a];omega)
   show (zCs f w ((z3Q f w (i+1)).getD (i+1) false) (i+1+1) (i+1) (z3Q f w (i+1))).getD w.length false=true
   unfold zCs
   rw [lAB,List.getElem?_mapIdx,hlen,lBH,lB1,ih,lD5]
 unfold z4K
 obtain ⟨n,hn⟩:∃ n,w.length=n+1:=⟨w.length-1,by omega⟩
 have:=key n
 rw [←hn] at this
 exact this
section
variable {D:Nat→List Bt→Bool} {mid:Nat}
theorem zJN.get {av:AV} {ks:List Nat} {fs:List (List Bt→Bool)} (h:zJN D mid av ks fs) {i:Nat} (hi:i<ks.length):∃ k f,ks[i]? =some k∧(ks.map z0w)[i]? =some (z0w k)∧fs[i]? =some f∧z8P D mid av k f:=by
 obtain ⟨k,hk⟩:=z0M (l:=ks) (i:=i) hi
 obtain ⟨f,hf⟩:=z0M (l:=fs) (i:=i) (by rw [←h.1];exact hi)
 exact ⟨k,f,hk,by rw [lAM,hk];rfl,hf,h.2 i k f hk hf⟩
theorem a266 {iv kv wv:AV} {op:Int} {s:Bt} {ks:List Nat} {fs:List (List Bt→Bool)} {w:List Bt} {H:z0B} (hk:Sl 1 kv (ks.map z0w)) (hL:zJN D mid (.cptr [iv,.map mid]) ks fs) (hn:ks.length≤1000000) (hform:Form op ks.length)
  (hs:Sl 1 wv (w.map .str)) (hg:GW w) (hw:w.length≤1000000) (ha:z3U (z1M D) mid H H):z0D PP 227 [.cptr [iv,.map mid],.agg [.int .i64 op,.str s,kv],wv] H (z6f (z1M D) mid H (z2C op [s] fs w)):=by
 refine zTh.c3 z0R mixed rfl ?_
 rw [lAK]
 have hml:=ha.lt
 have hlen:=hL.1
 have hlw:(w.map AV.str).length=w.length:=lAE _
 have hlk:(ks.map z0w).length=ks.length:=lAE _
 obtain ⟨hk1,hk2,hk3⟩:=z5S hk
 refine z1e (z0c ?_)
 refine z1E (.agg [.int .i64 op,.str s,kv]) rfl (by simp only [AV.shaped,lB4,hk3];first | done | rfl) ?_
 have xb:(H++[Blk.cells [.int .i64 op,.str s,kv]])[H.length]? =some (.cells [.int .i64 op,.str s,kv]):=z0K
 have xi:=ha.app [Blk.cells [.int .i64 op,.str s,kv]]
 show VV _ _ _ (H++[Blk.cells [.int .i64 op,.str s,kv]]) _ _
 have hnm:H.length≠mid:=by omega
 generalize (H++[Blk.cells [.int .i64 op,.str s,kv]]:z0B)=X at *
 have xx:=xi.self
 generalize hav:AV.cptr [iv,.map mid]=av at *
 refine z0A ?_
 cases h0:(op==0)
 rotate_left
 ·obtain rfl:op=0:=by simpa using h0
  refine z0A ?_
  cases hw1:(((w.map AV.str).length:Int)==1)
  ·refine z0A ?_
   refine z0Y rfl ⟨?_,xi⟩
   rw [show z2C 0 [s] fs w=(w==[s]) from rfl]
   cases w with
   | nil=>rfl
   | cons a l =>
    cases l with
    | nil=>simp at hw1
    | cons b l =>
     have:(a::b::l==[s])=false:=by simp
     rw [this];rfl
  ·obtain ⟨t,rfl⟩:∃ t,w=[t]:=by
    rw [hlw] at hw1
    match w,hw1 with
    | [t],_=>exact ⟨t,rfl⟩
    | [],h=>simp at h
    | _::_::_,h=>simp at h;omega
   have ht:([t].map AV.str)[0]? =some (.str t):=rfl
   refine z0A ?_
   refine z0Y rfl ⟨?_,xi⟩
   rw [show z2C 0 [s] fs [t]=([t]==[s]) from rfl]
   have:([t]==[s])=(t==s):=by simp
   rw [this];rfl
 refine z0A ?_
 cases h1:(op==1)
 rotate_left
 ·obtain rfl:op=1:=by simpa using h1
  refine z0A ?_
  exact z0Y rfl ⟨by rw [hlw];rfl,xi⟩
 refine z0A ?_
 cases h2:(op==2)
 rotate_left
 ·obtain rfl:op=2:=by simpa using h2
  refine z0A ?_
  refine z0Y rfl ⟨?_,xi⟩
  rw [hlw]
  cases w<;>rfl
 refine z0A ?_
 cases h4:(op==4)
 rotate_left
 ·obtain rfl:op=4:=by simpa using h4
  refine z0A ?_
  refine z0L rfl (a285 hk hL hn hs hg hw xx) ?_ ?_
  rotate_left
  ·rintro u V' ⟨hu,_⟩
   cases hu
  rintro u V1 ⟨hu,hin⟩
  cases hu
  refine z0A ?_
  exact z0Y rfl ⟨rfl,xi.trans hin⟩
 refine z0A ?_
 cases h5:(op==5)
 rotate_left
 ·obtain rfl:op=5:=by simpa using h5
  refine z0A ?_
  refine z0F ks.length (fun i al H'=>al=[(0,av),(2,wv),(4,.ptr H.length 0),(7,.int .i64 i)]∧z3U (z1M D) mid X H'∧(fs.take i).any (fun f=>f w)=false) ⟨rfl,xx,by simp⟩ ?_
  rintro i _ V hi ⟨rfl,vi,v1⟩
  have e1:decide ((i:Int)<((ks.map z0w).length:Int))=decide (i<ks.length):=by rw [hlk];simp only [lAP];omega
  have vb:=vi.old hnm xb
  refine z0A ?_
  rw [e1]
  cases hc:decide (i<ks.length)
  ·simp only [lAC] at hc
   have:fs.take i=fs:=lAS (by omega)
   rw [this] at v1
   refine z0A ?_
   exact z0Y rfl ⟨by rw [show z2C 5 [s] fs w=fs.any (fun f=>f w) from rfl,v1];rfl,xi.trans vi⟩
  simp only [lAD] at hc
  obtain ⟨k,f,hki,hkv,hfi,hA⟩:=hL.get hc
  refine z0A ?_
  refine z1f (z2h [mid]) ?_
  refine z0A ?_
  refine z5B (R:=z6f (z1M D) mid V (f w)) rfl (lAL _) rfl (hA V wv w hs hg hw vi.self) ?_ ?_
  rotate_left
  ·rintro u V' ⟨hu,_⟩
   cases hu
  rintro u V1 ⟨hu,hin⟩
  cases hu
  refine ⟨hin.mod,?_⟩
  have vi1:=vi.trans hin
  have vb1:=hin.old hnm vb
  cases hb:f w
  ·refine z0A ?_
   refine z2S (v:=.bool false) rfl ?_
   refine z0A ?_
   refine ⟨by omega,rfl,vi1,?_⟩
   rw [lBA,lDK,v1,hfi];simp [hb]
  ·refine z0A ?_
   refine z2S (v:=.bool true) rfl ?_
   refine z0A ?_
   refine z0Y rfl ⟨?_,xi.trans vi1⟩
   have:fs.any (fun f=>f w)=true:=lA3.2 ⟨f,lAF hfi,hb⟩
   rw [show z2C 5 [s] fs w=fs.any (fun f=>f w) from rfl,this];rfl
 refine z0A ?_
 cases h6:(op==6)
 rotate_left
 ·obtain rfl:op=6:=by simpa using h6
  refine z0A ?_
  refine z0F ks.length (fun i al H'=>al=[(0,av),(2,wv),(4,.ptr H.length 0),(7,.int .i64 i)]∧z3U (z1M D) mid X H'∧(fs.take i).all (fun f=>f w)=true) ⟨rfl,xx,by simp⟩ ?_
  rintro i _ V hi ⟨rfl,vi,v1⟩
  have e1:decide ((i:Int)<((ks.map z0w).length:Int))=decide (i<ks.length):=by rw [hlk];simp only [lAP];omega
  have vb:=vi.old hnm xb
  refine z0A ?_
  rw [e1]
  cases hc:decide (i<ks.length)
  ·simp only [lAC] at hc
   have:fs.take i=fs:=lAS (by omega)
   rw [this] at v1
   refine z0A ?_
   exact z0Y rfl ⟨by rw [show z2C 6 [s] fs w=fs.all (fun f=>f w) from rfl,v1];rfl,xi.trans vi⟩
  simp only [lAD] at hc
  obtain ⟨k,f,hki,hkv,hfi,hA⟩:=hL.get hc
  refine z0A ?_
  refine z1f (z2h [mid]) ?_
  refine z0A ?_
  refine z5B (R:=z6f (z1M D) mid V (f w)) rfl (lAL _) rfl (hA V wv w hs hg hw vi.self) ?_ ?_
  rotate_left
  ·rintro u V' ⟨hu,_⟩
   cases hu
  rintro u V1 ⟨hu,hin⟩
  cases hu
  refine ⟨hin.mod,?_⟩
  have vi1:=vi.trans hin
  have vb1:=hin.old hnm vb
  cases hb:f w
  ·refine z0A ?_
   refine z2S (v:=.bool true) rfl ?_
   refine z0A ?_
   refine z0Y rfl ⟨?_,xi.trans vi1⟩
   have:fs.all (fun f=>f w)=false:=List.all_eq_false.2 ⟨f,lAF hfi,by simp [hb]⟩
   rw [show z2C 6 [s] fs w=fs.all (fun f=>f w) from rfl,this];rfl
  ·refine z0A ?_
   refine z2S (v:=.bool false) rfl ?_
   refine z0A ?_
   refine ⟨by omega,rfl,vi1,?_⟩
   rw [lBA,List.all_append,v1,hfi];simp [hb]
 refine z0A ?_
 cases h7:(op==7)
 rotate_left
 ·obtain rfl:op=7:=by simpa using h7
  have:=hform.two rfl
  obtain ⟨k0,f0,hk0,hkv0,hf0,hA0⟩:=hL.get (i:=0) (by omega)
  obtain ⟨k1,f1,hk1',hkv1,hf1,hA1⟩:=hL.get (i:=1) (by omega)
  have hd:z2C 7 [s] fs w=(f0 w && !f1 w):=by
   show ((fs.getD 0 fun _=>false) w && !(fs.getD 1 fun _=>false) w)=_
   rw [z1Z hf0,z1Z hf1]
  rw [hd]
  refine z0A ?_
  refine z0L rfl (hA0 X wv w hs hg hw xx) ?_ ?_
  rotate_left
  ·rintro u V' ⟨hu,_⟩
   cases hu
  rintro u V1 ⟨hu,hin⟩
  cases hu
  have vb1:=hin.old hnm xb
  cases hb:f0 w
  ·refine z0A ?_
   exact z0Y rfl ⟨rfl,xi.trans hin⟩
  ·refine z0A ?_
   refine z0L rfl (hA1 V1 wv w hs hg hw hin.self) ?_ ?_
   rotate_left
   ·rintro u V' ⟨hu,_⟩
    cases hu
   rintro u V2 ⟨hu,hin2⟩
   cases hu
   refine z0A ?_
   exact z0Y rfl ⟨rfl,(xi.trans hin).trans hin2⟩
 refine z0A ?_
 cases h8:(op==8)
 rotate_left
 ·obtain rfl:op=8:=by simpa using h8
  have:=hform.one (.inl rfl)
  obtain ⟨k0,f0,hk0,hkv0,hf0,hA0⟩:=hL.get (i:=0) (by omega)
  have hd:z2C 8 [s] fs w=z4K f0 w:=by
   show z4K (fs.getD 0 fun _=>false) w=_
   rw [z1Z hf0]
  rw [hd]
  refine z0A ?_
  refine z0L rfl (a286 hA0 hs hg hw xx) ?_ ?_
  rotate_left
  ·rintro u V' ⟨hu,_⟩
   cases hu
  rintro u V1 ⟨hu,hin⟩
  cases hu
  refine z0A ?_
  exact z0Y rfl ⟨rfl,xi.trans hin⟩
 refine z0A ?_
 cases h9:(op==9)
 rotate_left
 ·obtain rfl:op=9:=by simpa using h9
  have:=hform.one (.inr (.inl rfl))
  obtain ⟨k0,f0,hk0,hkv0,hf0,hA0⟩:=hL.get (i:=0) (by omega)
  have hd:z2C 9 [s] fs w=(w.isEmpty&&f0 w || !w.isEmpty&&z4K f0 w):=by
   show ((w.isEmpty&&(fs.getD 0 fun _=>false) w)||(!w.isEmpty&&z4K (fs.getD 0 fun _=>false) w))=_
   rw [z1Z hf0]
  rw [hd]
  have he:decide (((w.map AV.str).length:Int)>0) = !w.isEmpty:=by cases w<;>simp
  refine z0A ?_
  rw [he]
  cases hwe:w.isEmpty
  ·refine z0A ?_
   refine z0L rfl (a286 hA0 hs hg hw xx) ?_ ?_
   rotate_left
   ·rintro u V' ⟨hu,_⟩
    cases hu
   rintro u V1 ⟨hu,hin⟩
   cases hu
   have vb1:=hin.old hnm xb
   cases hb:z4K f0 w
   ·have hf0:f0 w=false:=by
     cases h:f0 w
     ·rfl
     ·rw [zNn h (by simpa using hwe)] at hb;cases hb
    refine z0A ?_
    refine z0L rfl (hA0 V1 wv w hs hg hw hin.self) ?_ ?_
    rotate_left
    ·rintro u V' ⟨hu,_⟩
     cases hu
    rintro u V2 ⟨hu,hin2⟩
    cases hu
    rw [hf0]
    refine z0A ?_
    exact z0Y rfl ⟨rfl,(xi.trans hin).trans hin2⟩
   ·refine z0A ?_
    exact z0Y rfl ⟨rfl,xi.trans hin⟩
  ·refine z0A ?_
   refine z0L rfl (hA0 X wv w hs hg hw xx) ?_ ?_
   rotate_left
   ·rintro u V' ⟨hu,_⟩
    cases hu
   rintro u V2 ⟨hu,hin2⟩
   cases hu
   have hd2:(true&&f0 w || !true&&z4K f0 w)=f0 w:=by simp
   rw [hd2]
   refine z0A ?_
   exact z0Y rfl ⟨rfl,xi.trans hin2⟩
 refine z0A ?_
 cases h10:(op==10)
 rotate_left
 ·obtain rfl:op=10:=by simpa using h10
  have:=hform.one (.inr (.inr (.inl rfl)))
  obtain ⟨k0,f0,hk0,hkv0,hf0,hA0⟩:=hL.get (i:=0) (by omega)
  have hd:z2C 10 [s] fs w=(w.isEmpty||f0 w):=by
   show (w.isEmpty||(fs.getD 0 fun _=>false) w)=_
   rw [z1Z hf0]
  rw [hd]
  have he:(((w.map AV.str).length:Int)==0)=w.isEmpty:=by cases w<;>simp;omega
  refine z0A ?_
  rw [he]
  cases hwe:w.isEmpty
  ·refine z0A ?_
   refine z0L rfl (hA0 X wv w hs hg hw xx) ?_ ?_
   rotate_left
   ·rintro u V' ⟨hu,_⟩
    cases hu
   rintro u V1 ⟨hu,hin⟩
   cases hu
   refine z0A ?_
   exact z0Y rfl ⟨rfl,xi.trans hin⟩
  ·refine z0A ?_
   exact z0Y rfl ⟨rfl,xi⟩
 refine z0A ?_
 cases h11:(op==11)
 rotate_left
 ·obtain rfl:op=11:=by simpa using h11
  have:=hform.one (.inr (.inr (.inr (.inl rfl))))
  obtain ⟨k0,f0,hk0,hkv0,hf0,hA0⟩:=hL.get (i:=0) (by omega)
  have hd:z2C 11 [s] fs w=(!f0 w):=by
   show (!(fs.getD 0 fun _=>false) w)=_
   rw [z1Z hf0]
  rw [hd]
  refine z0A ?_
  refine z0L rfl (hA0 X wv w hs hg hw xx) ?_ ?_
  rotate_left
  ·rintro u V' ⟨hu,_⟩
   cases hu
  rintro u V1 ⟨hu,hin⟩
  cases hu
  refine z0A ?_
  exact z0Y rfl ⟨rfl,xi.trans hin⟩
 refine z0A ?_
 cases h12:(op==12)
 rotate_left
 ·obtain rfl:op=12:=by simpa using h12
  have:=hform.one (.inr (.inr (.inr (.inr rfl))))
  obtain ⟨k0,f0,hk0,hkv0,hf0,hA0⟩:=hL.get (i:=0) (by omega)
  have hd:z2C 12 [s] fs w=zNX f0 w:=by
   show zNX (fs.getD 0 fun _=>false) w=_
   rw [z1Z hf0]
  rw [hd]
  refine z0A ?_
  refine z0L rfl (a287 hA0 hs hg hw xx) ?_ ?_
  rotate_left
  ·rintro u V' ⟨hu,_⟩
   cases hu
  rintro u V1 ⟨hu,hin⟩
  cases hu
  refine z0A ?_
  exact z0Y rfl ⟨rfl,xi.trans hin⟩
 refine z0A ?_
 have h13:(op==13)=false:=by simpa using hform.no13
 have h15:(op==15)=false:=by simpa using hform.no15
 rw [h13]
 refine z0A ?_
 cases h14:(op==14)
 rotate_left
 ·obtain rfl:op=14:=by simpa using h14
  have:=hform.three rfl
  match ks,fs,hL,this,hk with
  | x::y::z::r,f::g::h::r',hL,_,hk =>
   have hd:z2C 14 [s] (f::g::h::r') w=zEf f g h w:=rfl
   rw [hd]
   refine z0A ?_
   refine z0L rfl (a289 hk (hL.2 0 x f rfl rfl) (hL.2 1 y g rfl rfl) (hL.2 2 z h rfl rfl) hs hg hw xx) ?_ ?_
   ·rintro u V1 ⟨hu,hin⟩
    cases hu
    refine z0A ?_
    exact z0Y rfl ⟨rfl,xi.trans hin⟩
   ·rintro u V' ⟨hu,_⟩
    cases hu
  | x::y::z::r,[],hL,_,_=>exact absurd hL.1 (by simp)
  | x::y::z::r,[_],hL,_,_=>exact absurd hL.1 (by simp)
  | x::y::z::r,[_,_],hL,_,_=>exact absurd hL.1 (by simp)
 refine z0A ?_
 refine z0Y rfl ⟨?_,xi⟩
 have hd:z2C op [s] fs w=false:=by
  unfold z2C
  simp only [z1u h0,z1u h1,z1u h2,z1u h4,z1u h5,z1u h6,z1u h7,z1u h8,z1u h9,z1u h10,z1u h11,z1u h12,z1u h14,if_false]
 rw [hd];rfl
end
structure IT where
 op:Int
 s:Bt
 kv:AV
 ks:List Nat
def itA (t:IT):AV:=.agg [.int .i64 t.op,.str t.s,t.kv]
def IT.core (t:IT):Int × Bt × List Nat:=(t.op,t.s,t.ks)
mutual
def z4u (n:Nat):Ex→List (Int × Bt × List Nat)
 | .mk op s _ l=>(op,s,z2g (n+1) l)::z4D (n+1) l
def z4D (n:Nat):List Ex→List (Int × Bt × List Nat)
 | []=>[]
 | x::l=>z4u n x++z4D (n+x.size) l
def z2g (n:Nat):List Ex→List Nat
 | []=>[]
 | x::l=>n::z2g (n+x.size) l
end
theorem zBx (x:Ex):∀ (l:List Ex) (n:Nat),z2g n (l++[x])=z2g n l++[n+z0V l]
 | [],n=>by simp [z2g,z0V]
 | y::l,n=>by
  simp only [lB5,z2g,zBx x l,z0V]
  rw [lBK]
theorem zAg (x:Ex):∀ (l:List Ex) (n:Nat),z4D n (l++[x])=z4D n l++z4u (n+z0V l) x
 | [],n=>by simp [z4D,z0V]
 | y::l,n=>by
  simp only [lB5,z4D,zAg x l,z0V,lA2]
  rw [lBK]
theorem z6U:∀ (e:Ex) (n:Nat),(z4u n e).length=e.size:=by
 intro e
 induction e using Ex.rec (motive_2:=fun l=>∀ n,(z4D n l).length=z0V l) with
 | mk op s nl l ih =>
  intro n
  simp only [z4u,lBE,Ex.size,ih];omega
 | nil=>rfl
 | cons x l h1 h2=>simp only [z4D,lAH,h1,h2,z0V]
theorem zJy (l:List Ex):∀ n,(z4D n l).length=z0V l:=by
 induction l with
 | nil=>intro n;rfl
 | cons x l h=>intro n;simp only [z4D,lAH,z6U,h,z0V]
theorem zAZ:∀ (l:List Ex) (n:Nat),(z2g n l).length=l.length
 | [],n=>rfl
 | y::l,n=>by simp only [z2g,lBE,zAZ l]
theorem z8D (a:AV) (l:List AV):z0j (a::l)=a.cells++z0j l:=rfl
theorem zQZ:∀ {its:List IT} {k:Nat} {t:IT},its[k]? =some t→(z0j (its.map itA))[k*3+2]? =some t.kv
 | t::its,0,u,h=>by
  simp only [lA0,Option.some.injEq] at h
  subst h;rfl
 | t::its,k+1,u,h=>by
  simp only [lBD] at h
  have:=zQZ h
  rw [lA6,z8D]
  show ([AV.int .i64 t.op,.str t.s,t.kv]++z0j (its.map itA))[(k+1)*3+2]? =_
  rw [lAJ (by simp;omega)]
  simp only [lBE,lDW]
  rw [show (k+1)*3+2-3=k*3+2 by omega];exact this
theorem zQY {ks:List Nat} {v:AV}:∀ {its:List IT} {k:Nat} {t:IT},its[k]? =some t→(z0j (its.map itA)).set (k*3+2) v=z0j ((its.set k ⟨t.op,t.s,v,ks⟩).map itA)
 | t::its,0,u,h=>by
  simp only [lA0,Option.some.injEq] at h
  subst h;rfl
 | t::its,k+1,u,h=>by
  simp only [lBD] at h
  have:=zQY (ks:=ks) (v:=v) h
  rw [lA6,z8D,List.set_cons_succ,lA6,z8D,←this]
  show ([AV.int .i64 t.op,.str t.s,t.kv]++z0j (its.map itA)).set ((k+1)*3+2) v=[AV.int .i64 t.op,.str t.s,t.kv]++_
  rw [lBC _ _ (by simp;omega)]
  simp only [lBE,lDW]
  rw [show (k+1)*3+2-(0+1+1+1)=k*3+2 by omega]
structure AI (aid mid lo:Nat) (iv:AV) (its:List IT) (X:z0B):Prop where
 ga:X[aid]? =some (.cells [iv,.map mid])
 gi:z3v 3 lo X iv (its.map itA)
 kids:∀ t∈its,z1D lo X t.kv (t.ks.map z0w)
 dis:∀ (i j:Nat) (a b:IT),i≠j→its[i]? =some a→its[j]? =some b→∀ x k k',a.kv=.sl x 0 k 1→b.kv≠.sl x 0 k' 1
 al:aid<lo
 ll:lo≤X.length
def zNR (aid:Nat) (iv:AV) (X Y:z0B):Prop:=(∀ (j:Nat) (b:Blk),j≠aid→(∀ k,iv≠.sl j 0 k 3)→X[j]? =some b→Y[j]? =some b)∧X.length≤Y.length
theorem zYD {its:List IT} {ks:List Nat} (h:its≠[]):Blk.cells (z0j (its.map itA))≠.cells (ks.map z0w):=by
 intro e
 injection e with e
 cases its with
 | nil=>exact h rfl
 | cons t its =>
  have h1:(z0j ((t::its).map itA))[1]? =some (.str t.s):=rfl
  rw [e,lAM] at h1
  cases hk:ks[1]? with
  | none=>rw [hk] at h1;cases h1
  | some a=>rw [hk] at h1;cases h1
theorem AI.scalar {aid mid lo:Nat} {iv:AV} {its:List IT} {X:z0B} (h:AI aid mid lo iv its X):∀ t∈its,AV.scalar t.kv=true:=fun t ht=>by
 rcases h.kids t ht with ⟨_,e⟩ | ⟨kb,e,_⟩
 ·rw [e];rfl
 ·rw [e];rfl
theorem AI.to {aid mid lo:Nat} {iv:AV} {its:List IT} {X Y:z0B} (h:AI aid mid lo iv its X) (hp:∀ (j:Nat) (b:Blk),j=aid∨lo≤j→X[j]? =some b→Y[j]? =some b) (hl:X.length≤Y.length):AI aid mid lo iv its Y :=
 ⟨hp _ _ (.inl rfl) h.ga,h.gi.mono fun j b h1 h2=>hp j b (.inr h1) h2,fun t ht=>(h.kids t ht).mono fun j b h1 h2=>hp j b (.inr h1) h2,h.dis,h.al,lBM h.ll hl⟩
theorem AI.app {aid mid lo:Nat} {iv:AV} {its:List IT} {X:z0B} (h:AI aid mid lo iv its X) (G:z0B):AI aid mid lo iv its (X++G):=h.to (fun _ _ _ h=>z0G h) (by simp)
theorem zRD {P:Program} {H:z0B} {al:AL} {K:KL} {Qp:AL→AV→z0B→Prop} {os:List IOper} {x y:Arg} {id:Nat} {kv a b:AV} {sz:Nat} (hs:kv=.nilslice∨∃ kb k,kv=.sl kb 0 k sz) (hx:evL al x=.ptr id (0+0)) (hy:evL al y=kv) (hg:H[id]? =some (.cells [a,b])) (h:VV P os al (H.set id (.cells [kv,b])) K Qp) :
  VV P (⟨none,.i (.m (.store 1)),[x,y],none,none⟩::os) al H K Qp:=by
 rcases hs with rfl | ⟨kb,k,rfl⟩
 ·exact z0k .nilslice hx hy hg rfl rfl rfl h
 ·exact z0k (.sl kb 0 k sz) hx hy hg rfl rfl rfl h
theorem zLD {P:Program} {H:z0B} {al:AL} {K:KL} {Qp:AL→AV→z0B→Prop} {os:List IOper} {x y:Arg} {id p:Nat} {kv:AV} {cs:List AV} {sz:Nat} (hs:kv=.nilslice∨∃ kb k,kv=.sl kb 0 k sz) (hx:evL al x=.ptr id p) (hy:evL al y=kv) (hg:H[id]? =some (.cells cs)) (hp:p<cs.length) (h:VV P os al (H.set id (.cells (cs.set p kv))) K Qp) :
  VV P (⟨none,.i (.m (.store 1)),[x,y],none,none⟩::os) al H K Qp:=by
 have e:∀ v:AV,z4m cs p [v]=cs.set p v:=by
  intro v
  unfold z4m
  rw [lDB,if_pos hp]
  simp
 have hb:decide (p+1≤cs.length)=true:=by rw [lAD];omega
 rcases hs with rfl | ⟨kb,k,rfl⟩
 ·exact z0k .nilslice hx hy hg (by simp only [AV.shaped,AV.cells,lB7,hb];rfl) (e _) rfl h
 ·exact z0k (.sl kb 0 k sz) hx hy hg (by simp only [AV.shaped,AV.cells,lB7,hb];rfl) (e _) rfl h
section steps
variable {P:Program} {H G:z0B} {al:AL} {K:KL} {Qp:AL→AV→z0B→Prop} {os:List IOper} {d:Nat} {x y z:Arg}
theorem zHL {sz lo bytes:Nat} {v:AV} {l:List AV} {cs:List AV} {X:z0B} (hx:evL al x=v) (ho:z3v sz lo X v l) (hy:evL al y=.sl X.length 0 1 sz) (hcs:cs.length=sz) (hsc:cs.all AV.scalar=true)
  (hb:(l.length+1)*bytes≤140737488355328) (hlo:lo≤X.length)
  (h:∀ v' H',z3v sz lo H' v' (l++[.agg cs])→(∀ (j:Nat) (b:Blk),(∀ k,v≠.sl j 0 k sz)→X[j]? =some b→H'[j]? =some b)→X.length≤H'.length→(∀ j k,v'=.sl j 0 k sz→X.length≤j)→VV P os ((d,v')::al) H' K Qp) :
  VV P (⟨some d,.i (.m (.append sz bytes)),[x,y],none,none⟩::os) al (X++[.cells cs]) K Qp:=by
 obtain ⟨h0,ho⟩:=ho
 have hel:∀ x∈l++[.agg cs],x.cells.length=sz:=by
  intro x hx
  rcases lBF.1 hx with hx | hx
  ·exact h0 x hx
  ·rw [lA1] at hx;subst hx;exact hcs
 rcases ho with ⟨rfl,rfl⟩ | ⟨id,rfl,h3,h4,h5⟩
 ·refine z3z (m:=1) (ys:=cs) hx (by rw [hy];exact z1y (by omega)) (by omega) hsc (by simpa using hb) ?_
  refine h _ _ ⟨hel,.inr ⟨_,rfl,?_,by rw [lAH];omega,by simp⟩⟩ (fun j b hj hb=>z0G (z0G hb)) (by rw [lAH,lAH];omega) (fun j k e=>by injection e with e;rw [lAH] at e;omega)
  rw [zDE]
  simp [z0j,AV.cells]
 ·have hlt:=(lAA.1 h3).1
  have hfl:(z0j l).length=l.length*sz:=z0y h0
  refine z4L (m:=1) (ys:=cs) hx (z0G h3) (by omega) (by rw [hy];exact z1y (by omega)) hsc hb ?_
  refine h _ _ ⟨hel,.inr ⟨(X++[Blk.cells cs]).length,by rw [show (l++[AV.agg cs]).length=l.length+1 by simp],?_,by rw [lAH];omega,by simp⟩⟩ (fun j b hj hb=>?_) (by rw [lAH,lCK,lAH];omega) (fun j k e=>by injection e with e;rw [lAH] at e;omega)
  ·rw [lAJ (by simp)]
   simp only [lCK,lBJ,lA0]
   rw [lBL,←hfl,lAW,z5x]
   simp [z0j,AV.cells]
  ·have:=(lAA.1 hb).1
   have hne:id≠j:=fun e=>hj l.length (by rw [e])
   rw [lAN (by simp;omega),lA7,if_neg hne]
   exact z0G hb
theorem z9R {lo bytes:Nat} {kv e:AV} {l:List AV} (hx:evL al x=kv) (ho:z1D lo H kv l) (hy:evL al y=.sl H.length 0 1 1) (hsc:AV.scalar e=true) (hall:l.all AV.scalar=true) (hb:(l.length+1)*bytes≤140737488355328) (hlo:lo≤H.length)
  (h:∀ kv' H',z1D lo H' kv' (l++[e])→(∀ (j:Nat) (b:Blk),(∀ k,kv≠.sl j 0 k 1)→H[j]? =some b→H'[j]? =some b)→H.length≤H'.length→(∀ j k,kv'=.sl j 0 k 1→H.length≤j)→VV P os ((d,kv')::al) H' K Qp) :
  VV P (⟨some d,.i (.m (.append 1 bytes)),[x,y],none,none⟩::os) al (H++[.cells [e]]) K Qp:=by
 have hys:z1m 1 (H++[.cells [e]]) (evL al y)=some (1,[e]):=by rw [hy];exact z1y (by simp)
 rcases ho with ⟨rfl,rfl⟩ | ⟨id,rfl,h2,h3,_⟩
 ·refine z3z hx hys (by omega) (by simp [hsc]) (by simpa using hb) (h _ _ (.inr ⟨_,rfl,z0K,by simp;omega,by simp⟩) (fun j b _ hj=>z0G (z0G hj)) (by simp) (fun j k e=>by injection e with e;rw [lAH] at e;omega))
 ·have hid:=(lAA.1 h2).1
  refine z4L hx (z0G h2) (by omega) hys (by simp [hsc]) (by simpa using hb) ?_
  have hl:((l.drop 0).take (l.length*1)++[e])=l++[e]:=by rw [lBL,lCA,lAW]
  rw [hl]
  have hln:((H++[.cells [e]]:z0B).set id .dead).length=(H++[.cells [e]]:z0B).length:=by simp
  rw [←hln]
  refine h _ _ (.inr ⟨_,by simp,z0K,by rw [hln];simp;omega,by simp⟩) (fun j b hn hj=>?_) (by simp;omega) (fun j k e=>by injection e with e;rw [hln,lAH] at e;omega)
  have hne:id≠j:=fun e=>hn l.length (by rw [e])
  exact z0G (z0J (z0G hj) hne)
end steps
theorem z5v {lo:Nat} {its:List IT} {iv kv:AV} {ks:List Nat} {Y:z0B} (hi:z3v 3 lo Y iv (its.map itA)) (hk:z1D lo Y kv (ks.map z0w)):∀ x k k',kv=.sl x 0 k 1→iv≠.sl x 0 k' 3:=by
 intro x k k' e e'
 subst e;subst e'
 rcases hi.2 with ⟨_,h⟩ | ⟨ib,h,h1,_,h2⟩
 ·cases h
 ·injection h with h
  rcases hk with ⟨_,g⟩ | ⟨kb,g,g1,_,_⟩
  ·cases g
  ·injection g with g
   subst h;subst g
   exact zGR h1 g1 (zYD (by intro e;rw [e] at h2;exact h2 rfl)) rfl
theorem AI.push {aid mid lo:Nat} {iv iv1:AV} {its:List IT} {Y Y1:z0B} {op:Int} {s:Bt} (h:AI aid mid lo iv its Y) (hko:z3v 3 lo Y1 iv1 ((its++([⟨op,s,.nilslice,[]⟩]:List IT)).map itA))
  (hpres:∀ (j:Nat) (b:Blk),(∀ k,iv≠.sl j 0 k 3)→Y[j]? =some b→Y1[j]? =some b) (hlen:Y.length≤Y1.length):AI aid mid lo iv1 (its++([⟨op,s,.nilslice,[]⟩]:List IT)) (Y1.set aid (.cells [iv1,.map mid])):=by
 have hal:=h.al
 have hll:=h.ll
 refine ⟨lAU (by omega),hko.mono fun j b h1 h2=>z0J h2 (by omega),fun t ht=>?_,fun i j a b hij ha hb x k k' e=>?_,hal,by simp;omega⟩
 ·rcases lBF.1 ht with ht | ht
  ·have hk:=h.kids t ht
   have:=z5v h.gi hk
   exact (hk.mono' (Y:=Y1) fun j k b e hj=>hpres j b (fun k'=>this j k k' e) hj).mono fun j b h1 h2=>z0J h2 (by omega)
  ·simp only [lA1] at ht
   subst ht
   exact .inl ⟨rfl,rfl⟩
 ·intro e'
  have hi:i<its.length:=by
   rcases lBB i its.length with h | h
   ·exact h
   ·rw [lAJ h] at ha
    cases hd:i-its.length with
    | zero=>rw [hd] at ha;simp only [lA0,Option.some.injEq] at ha;subst ha;cases e
    | succ n=>rw [hd] at ha;simp at ha
  have hj:j<its.length:=by
   rcases lBB j its.length with h | h
   ·exact h
   ·rw [lAJ h] at hb
    cases hd:j-its.length with
    | zero=>rw [hd] at hb;simp only [lA0,Option.some.injEq] at hb;subst hb;cases e'
    | succ n=>rw [hd] at hb;simp at hb
  rw [lAN hi] at ha
  rw [lAN hj] at hb
  exact h.dis i j a b hij ha hb x k k' e e'
theorem AI.kid {aid mid lo ib k n:Nat} {its:List IT} {t:IT} {kv':AV} {Y Y1:z0B} (h:AI aid mid lo (.sl ib 0 its.length 3) its Y) (ht:its[k]? =some t) (hk:z1D lo Y1 kv' ((t.ks++[n]).map z0w))
  (hpres:∀ (j:Nat) (b:Blk),(∀ k,t.kv≠.sl j 0 k 1)→Y[j]? =some b→Y1[j]? =some b) (hlen:Y.length≤Y1.length) (hf:∀ j k,kv'=.sl j 0 k 1→Y.length≤j) :
  AI aid mid lo (.sl ib 0 its.length 3) (its.set k ⟨t.op,t.s,kv',t.ks++[n]⟩) (Y1.set ib (.cells ((z0j (its.map itA)).set (k*3+2) kv'))):=by
 have hal:=h.al
 have hll:=h.ll
 have hkt:=(lAA.1 ht).1
 have htk:=h.kids t (lAF ht)
 obtain ⟨hc,⟨_,e⟩ | ⟨ib',e,gi,hib,hne⟩⟩:=h.gi
 ·cases e
 injection e with e
 subst e
 have hil:=(lAA.1 gi).1
 have hki:=z5v h.gi htk
 have old:∀ j u,j≠k→its[j]? =some u→z1D lo (Y1.set ib (.cells ((z0j (its.map itA)).set (k*3+2) kv'))) u.kv (u.ks.map z0w):=fun j u hj hu=>by
  have hku:=h.kids u (lAF hu)
  have h1:=z5v h.gi hku
  exact (hku.mono' (Y:=Y1) fun x q b e hx=>hpres x b (fun k'=>h.dis j k u t hj hu ht x q k' e) hx).mono' fun x q b e hx=>z0J hx fun e'=>by subst e';exact h1 ib q its.length e rfl
 refine ⟨z0J (hpres _ _ (htk.ne hal) h.ga) (by omega),⟨fun x hx=>?_,.inr ⟨ib,by simp,?_,hib,?_⟩⟩,fun u hu=>?_,fun i j a b hij ha hb x q q' e e'=>?_,hal,by simp;omega⟩
 ·obtain ⟨u,_,rfl⟩:=lA4.1 hx
  rfl
 ·rw [lAU (by omega),zQY (ks:=t.ks++[n]) ht]
 ·intro e
  rw [List.map_eq_nil_iff] at e
  have:=congrArg List.length e
  simp at this
  subst this
  simp at hkt
 ·obtain ⟨j,hj,rfl⟩:=lBR.1 hu
  rw [lCK] at hj
  rw [List.getElem_set]
  split
  ·exact hk.mono' fun x q b e hx=>z0J hx fun e'=>by have:=hf x q e;omega
  ·rename_i hjk
   exact old j _ (fun e=>hjk e.symm) (lAG hj)
 ·rw [lA7] at ha hb
  have hfr:∀ (y:Nat) (u:IT) (z q q':Nat),its[y]? =some u→u.kv=.sl z 0 q 1→kv'=.sl z 0 q' 1→False:=fun y u z q q' hu e1 e2=>by
   have:=hf z q' e2
   rcases h.kids u (lAF hu) with ⟨_,g⟩ | ⟨kb,g,g1,_,_⟩
   ·rw [g] at e1;cases e1
   ·rw [g] at e1
    injection e1 with e1
    have:=(lAA.1 g1).1
    omega
  split at ha
  ·split at hb
   ·omega
   ·injection ha with ha
    subst ha
    exact hfr j b x q' q hb e' e
  ·split at hb
   ·injection hb with hb
    subst hb
    exact hfr i a x q q' ha e e'
   ·exact h.dis i j a b hij ha hb x q q' e e'
def zXW (aid mid lo:Nat) (iv:AV) (its:List IT) (e:Ex) (X:z0B):z2U:=fun r Y=>r=.ret (.int .i64 its.length)∧∃ iv' new,AI aid mid lo iv' (its++new) Y∧new.map IT.core=z4u its.length e∧zNR aid iv X Y ∧
 (∀ j k,iv'=.sl j 0 k 3→X.length≤j)∧∀ t∈new,∀ j k,t.kv=.sl j 0 k 1→X.length≤j
theorem zRE {P:Program} {H X:z0B} {al:AL} {K:KL} {Qp:AL→AV→z0B→Prop} {os:List IOper} {d:Nat} {x:Arg} {sz lo:Nat} {v:AV} {l:List AV} (hx:evL al x=v) (ho:z3v sz lo X v l) (h:VV P os ((d,.int .i64 l.length)::al) H K Qp) :
  VV P (⟨some d,.i (.d .len),[x],none,none⟩::os) al H K Qp:=by
 rcases ho.2 with ⟨rfl,rfl⟩ | ⟨id,rfl,_⟩
 ·exact z2S (v:=.int .i64 0) (by simp only [z0u,hx];rfl) h
 ·exact z2S (v:=.int .i64 l.length) (by simp only [z0u,hx];rfl) h
theorem a133 {aid mid lo:Nat}:∀ (e:Ex) (iv:AV) (its:List IT) (X:z0B),AI aid mid lo iv its X→its.length+e.size≤100000→okE e→z0D PP 126 [.ptr aid 0,enc e] X (zXW aid mid lo iv its e X)
 | .mk op s nl l,iv,its,X,h,hn,hok=>by
  refine zUW.c2 z0R mixed rfl ?_
  rw [z0a,lAK]
  have hll:=h.ll
  have hal:=h.al
  simp only [Ex.size] at hn
  refine z1e (z0c ?_)
  refine z1E (.agg [.int .i64 op,.str s,lst nl l]) rfl rfl ?_
  have y3:(X++[Blk.cells [.int .i64 op,.str s,lst nl l]])[X.length]? =some (.cells [.int .i64 op,.str s,lst nl l]):=z0K
  have yh:=h.app [Blk.cells [.int .i64 op,.str s,lst nl l]]
  have yo:∀ (j:Nat) (b:Blk),X[j]? =some b→(X++[Blk.cells [.int .i64 op,.str s,lst nl l]])[j]? =some b:=fun j b h=>z0G h
  have yl:(X++[Blk.cells [.int .i64 op,.str s,lst nl l]]:z0B).length=X.length+1:=by simp
  have ybi:=h.gi.lt (lAL X.length)
  show VV _ _ _ (X++[Blk.cells [.int .i64 op,.str s,lst nl l]]) _ _
  generalize (X++[Blk.cells [.int .i64 op,.str s,lst nl l]]:z0B)=Y at *
  have ya:=yh.ga
  have hml:(its.map itA).length=its.length:=lAE _
  refine z0A ?_
  refine zRE rfl yh.gi ?_
  rw [hml]
  refine z0A ?_
  refine z3k (z2r [aid,X.length]) ?_
  refine z0A ?_
  refine z1w (out:=[.int .i64 op,.str s,.nilslice]) rfl rfl ?_
  refine z0A ?_
  refine zDm rfl rfl (lAL _) ?_
  refine z0Z (out:=[.int .i64 op,.str s,.nilslice]) rfl ?_
  refine z1b z2v ?_
  refine zDm rfl rfl (by simp) ?_
  refine zHL (v:=iv) rfl yh.gi rfl rfl rfl (by omega) yh.ll ?_
  intro iv1 Y1 hko hpres hlen hfr
  have hlo:∀ j,j<lo→∀ k,iv≠.sl j 0 k 3:=fun j hj=>yh.gi.ne hj
  have u3:=hpres _ _ ybi y3
  have ua:=hpres _ _ (hlo _ hal) ya
  have hl3:=(lAA.1 y3).1
  refine z1b (z1K fun j hj b hb'=>?_) ?_
  ·simp only [lAT,lA5,or_false] at hj
   have hjl:j<Y.length:=by omega
   rw [lAN hjl] at hb'
   rcases hj with rfl | rfl
   ·exact hpres _ _ (hlo _ hal) hb'
   ·exact hpres _ _ ybi hb'
  refine z0A ?_
  refine zQN rfl rfl rfl (by omega) ?_
  refine zRD hko.shape rfl rfl ua ?_
  refine z3y ?_
  have hmo:its.map itA++[.agg [.int .i64 op,.str s,.nilslice]]=(its++([⟨op,s,.nilslice,[]⟩]:List IT)).map itA:=by rw [lBP];rfl
  rw [hmo] at hko
  have zh:=yh.push hko hpres hlen
  have z3:=z0J (i:=aid) (c:=.cells [iv1,.map mid]) u3 (by omega)
  have zk:zNR aid iv X (Y1.set aid (.cells [iv1,.map mid])):=⟨fun j b h1 h2 h3=>z0J (hpres j b h2 (yo j b h3)) (fun e=>h1 e.symm),by simp;omega⟩
  generalize Y1.set aid (.cells [iv1,.map mid])=Z at *
  have hsl:=z4h nl l
  have hlen2:(l.map enc).length=l.length:=lAE _
  have hll2:l.length≤100000:=by have:=z1H l;omega
  clear ua u3 hpres hko ya y3 yh yo hlo
  refine z0A ?_
  refine z0F l.length (fun i al W=>al=[(0,.ptr aid 0),(3,.ptr X.length 0),(5,.int .i64 its.length),(6,.int .i64 i)]∧∃ iv' kv new,AI aid mid lo iv' (its++⟨op,s,kv,z2g (its.length+1) (l.take i)⟩::new) W∧new.map IT.core=z4D (its.length+1) (l.take i)∧W[X.length]? =some (.cells [.int .i64 op,.str s,lst nl l])∧zNR aid iv X W ∧
   (∀ j k,iv'=.sl j 0 k 3→X.length+1≤j)∧(∀ j k,kv=.sl j 0 k 1→X.length+1≤j)∧∀ t∈new,∀ j k,t.kv=.sl j 0 k 1→X.length≤j) ⟨rfl,iv1,.nilslice,[],zh,rfl,z3,zk,fun j k e=>by have:=hfr j k e;omega,fun j k e=>(by cases e),fun t ht=>(by cases ht)⟩ ?_
  clear zh z3 zk Z
  rintro i _ W hi ⟨rfl,iv2,kv2,new,wh,wc,w3,wk,wf1,wf2,wf3⟩
  have e1:decide ((i:Int)<((l.map enc).length:Int))=decide (i<l.length):=by rw [hlen2];simp only [lAP];omega
  have hnl:new.length=z0V (l.take i):=by
   have:=congrArg List.length wc
   rw [lAE,zJy] at this
   exact this
  refine z0A ?_
  rw [e1]
  cases hc:decide (i<l.length)
  ·simp only [lAC] at hc
   have:l.take i=l:=lAS (by omega)
   rw [this] at wh wc
   refine z0A ?_
   refine z0Y rfl ⟨rfl,iv2,_,wh,?_,wk,fun j k e=>by have:=wf1 j k e;omega,fun t ht j k e=>?_⟩
   ·rw [lA6,wc]
    simp only [IT.core,z4u]
   ·rcases lAT.1 ht with rfl | ht
    ·have:=wf2 j k e;omega
    ·exact wf3 t ht j k e
  simp only [lAD] at hc
  obtain ⟨c,hci⟩:=z0M (l:=l) (i:=i) hc
  have hcm:=lAF hci
  have hsz:=z4j hci
  have hszl:=z6N l (i+1)
  have hcw:=zDk hcm
  have htk:l.take (i+1)=l.take i++[c]:=by rw [lBA,hci];rfl
  have hll3:(its++⟨op,s,kv2,z2g (its.length+1) (l.take i)⟩::new:List IT).length=its.length+1+z0V (l.take i):=by simp [hnl];omega
  have ih:=a133 (aid:=aid) (mid:=mid) (lo:=lo) c iv2 _ W wh (by rw [hll3];omega) (by unfold okE at hok ⊢;simp only [Ex.w] at hok;omega)
  unfold zXW at ih
  rw [hll3] at ih
  obtain ⟨ca,cb,cc,hec⟩:=zFV c
  have hu:(l.map enc)[i]? =some (.agg [ca,cb,cc]):=by rw [lAM,hci,←hec];rfl
  rw [hec] at ih
  refine z0A ?_
  refine z0L rfl ih ?_ ?_
  rotate_left
  ·rintro u V' ⟨hu,_⟩
   cases hu
  rintro u V ⟨hu,iv3,new2,vh,vc,vk,vf1,vf2⟩
  cases hu
  have hWl:=wk.2
  have hXW:=(lAA.1 w3).1
  have v3:=vk.1 _ _ (by omega) (fun k e=>by have:=wf1 _ k e;omega) w3
  have vkX:zNR aid iv X V:=⟨fun j b h1 h2 h3=>vk.1 j b h1 (fun k e=>by
   have:=wf1 j k e
   have:=(lAA.1 h3).1
   omega) (wk.1 j b h1 h2 h3),lBM hWl vk.2⟩
  have hVl:=vk.2
  rw [lA2,lB5] at vh
  obtain ⟨ib,rfl⟩:∃ ib,iv3=.sl ib 0 (its++(⟨op,s,kv2,z2g (its.length+1) (l.take i)⟩:IT)::(new++new2)).length 3:=by
   rcases vh.gi.2 with ⟨e,_⟩ | ⟨ib,e,_⟩
   ·simp at e
   ·exact ⟨ib,by rw [e,lAE]⟩
  have hkt:(its++(⟨op,s,kv2,z2g (its.length+1) (l.take i)⟩:IT)::(new++new2))[its.length]? =some ⟨op,s,kv2,z2g (its.length+1) (l.take i)⟩:=by
   rw [lAJ (lAL _),lBJ];rfl
  have hset:∀ t:IT,(its++(⟨op,s,kv2,z2g (its.length+1) (l.take i)⟩:IT)::(new++new2)).set its.length t=its++t::(new++new2):=fun t=>by
   rw [lBC _ _ (lAL _),lBJ];rfl
  have hlt:its.length<(its++(⟨op,s,kv2,z2g (its.length+1) (l.take i)⟩:IT)::(new++new2)).length:=by simp
  have va:=vh.ga
  have hkid:=vh.kids _ (lAF hkt)
  have hcell:=zQZ hkt
  simp only at hkid hcell
  obtain ⟨gcells,hgib⟩:∃ c,V[ib]? =some (.cells c)∧c=z0j ((its++(⟨op,s,kv2,z2g (its.length+1) (l.take i)⟩:IT)::(new++new2)).map itA):=by
   rcases vh.gi.2 with ⟨e,_⟩ | ⟨ib',e,g,_,_⟩
   ·simp at e
   ·injection e with e
    subst e
    exact ⟨_,g,rfl⟩
  obtain ⟨hgib,rfl⟩:=hgib
  have hibx:=vf1 ib _ rfl
  have hibl:=(lAA.1 hgib).1
  have hiba:aid≠ib:=by omega
  have hfl:(z0j ((its++(⟨op,s,kv2,z2g (its.length+1) (l.take i)⟩:IT)::(new++new2)).map itA)).length=(its++(⟨op,s,kv2,z2g (its.length+1) (l.take i)⟩:IT)::(new++new2)).length*3:=by
   rw [z0y vh.gi.1,lAE]
  have hkl:((z2g (its.length+1) (l.take i)).map z0w).length≤100000:=by
   have:=z1H (l.take i)
   rw [lAE,zAZ,lCW];omega
  have hsk:=hkid
  generalize hall:(its++(⟨op,s,kv2,z2g (its.length+1) (l.take i)⟩:IT)::(new++new2))=all at *
  refine z0A ?_
  refine z3k (z2r [aid,ib]) ?_
  refine z5e ?_
  refine z2a (v:=kv2) rfl hgib (by rw [lBN];exact hcell) ?_
  refine zCe ?_
  refine z5e ?_
  refine zDm rfl rfl (lAL _) ?_
  refine z0Z (out:=[z0w (its.length+1+z0V (l.take i))]) rfl ?_
  refine z1b z2v ?_
  refine zDm rfl rfl (by simp) ?_
  refine z9R (kv:=kv2) rfl hkid rfl rfl (z2y _) (by omega) vh.ll ?_
  intro kv' V1 hko hpres hlen1 hfr1
  have hka:∀ k,kv2≠.sl aid 0 k 1:=hkid.ne hal
  have hki:=z5v vh.gi hkid
  have hkb:∀ k,kv2≠.sl ib 0 k 1:=fun k e=>hki ib k _ e rfl
  have ub:=hpres _ _ hkb hgib
  have hal2:=(lAA.1 va).1
  refine z1b (z1K fun j hj b hb'=>?_) ?_
  ·simp only [lAT,lA5,or_false] at hj
   have hjl:j<V.length:=by omega
   rw [lAN hjl] at hb'
   rcases hj with rfl | rfl
   ·exact hpres _ _ hka hb'
   ·exact hpres _ _ hkb hb'
  refine z5e ?_
  refine zQN rfl rfl rfl (by omega) ?_
  refine zLD (p:=0+its.length*3+2) hko.shape rfl rfl ub (by omega) ?_
  refine z3y ?_
  have hmo2:(z2g (its.length+1) (l.take i)).map z0w++[z0w (its.length+1+z0V (l.take i))]=(z2g (its.length+1) (l.take i)++[its.length+1+z0V (l.take i)]).map z0w:=by rw [lBP];rfl
  rw [hmo2] at hko
  have th:=vh.kid (k:=its.length) (n:=its.length+1+z0V (l.take i)) hkt hko hpres hlen1 hfr1
  rw [lBN]
  have tX:zNR aid iv X (V1.set ib (.cells ((z0j (all.map itA)).set (its.length*3+2) kv'))):=⟨fun j b h1 h2 h3=>by
   have hjx:=(lAA.1 h3).1
   exact z0J (hpres j b (fun k e=>by have:=wf2 j k e;omega) (vkX.1 j b h1 h2 h3)) (by omega),by simp;omega⟩
  have t3:(V1.set ib (.cells ((z0j (all.map itA)).set (its.length*3+2) kv')))[X.length]? =some (.cells [.int .i64 op,.str s,lst nl l]):=z0J (hpres _ _ (fun k e=>by have:=wf2 _ k e;omega) v3) (by omega)
  generalize V1.set ib (.cells ((z0j (all.map itA)).set (its.length*3+2) kv'))=T at *
  rw [hset] at th
  have hnum:z2g (its.length+1) (l.take i)++[its.length+1+z0V (l.take i)]=z2g (its.length+1) (l.take (i+1)):=by rw [htk,zBx]
  have hcor:(new++new2).map IT.core=z4D (its.length+1) (l.take (i+1)):=by rw [htk,zAg,lBP,wc,vc]
  simp only [hnum] at th
  refine z5e ?_
  refine ⟨hc,rfl,_,kv',new++new2,th,hcor,t3,tX,fun j k e=>?_,fun j k e=>?_,fun t ht j k e=>?_⟩
  ·injection e with e
   omega
  ·have:=hfr1 j k e
   omega
  ·rcases lBF.1 ht with ht | ht
   ·exact wf3 t ht j k e
   ·have:=vf2 t ht j k e
    omega
termination_by e=>e.w
decreasing_by
 simp only [Ex.w];omega
def z3Y (ks:List Nat):AV:=if ks.isEmpty then .nilslice else .list 1 (ks.map z0w)
theorem zHM (ks:List Nat):Sl 1 (z3Y ks) (ks.map z0w):=by
 unfold z3Y
 cases ks with
 | nil=>exact .nil
 | cons a l=>exact .list _
def z5Z (t:Int × Bt × List Nat):AV:=.agg [.int .i64 t.1,.str t.2.1,z3Y t.2.2]
theorem zHv {l:List AV} {p i:Nat} {v d:AV} (hp:p<l.length):(l.set p v).getD i d=if p=i then v else l.getD i d:=by
 rw [lAB,lA7]
 split
 ·first | rfl | (rw [if_pos (by omega)];rfl)
 ·rw [lAB]
theorem zAm (l m:List AV):z0j (l++m)=z0j l++z0j m:=by simp [z0j]
theorem z8Y {n lo:Nat} {m:AV} (hn:n≤lo):∀ (zNV:List IT) (dn:List AV) (X:z0B),(∀ x∈dn,x.cells.length=3)→(∀ t∈zNV,z1D lo X t.kv (t.ks.map z0w)) →
  zNV.Pairwise (fun a b=>∀ x k k',a.kv=.sl x 0 k 1→b.kv≠.sl x 0 k' 1) →
  ∃ K,SealsX n (.cptr [.list 3 (dn++zNV.map itA),m]) X (.cptr [.list 3 (dn++zNV.map fun t=>z5Z t.core),m]) K∧(∀ (j:Nat) (b:Blk),j<lo→X[j]? =some b→K[j]? =some b)∧X.length≤K.length
 | [],dn,X,_,_,_=>⟨X,.done _ _,fun _ _ _ h=>h,lAL _⟩
 | t::ts,dn,X,hd,hk,hp=>by
  rw [lDC] at hp
  have h3:∀ x∈dn++[z5Z t.core],x.cells.length=3:=fun x hx=>by
   rcases lBF.1 hx with hx | hx
   ·exact hd x hx
   ·simp only [lA1] at hx;subst hx;rfl
  have e2:dn++(t::ts).map (fun t=>z5Z t.core)=(dn++[z5Z t.core])++ts.map fun t=>z5Z t.core:=by simp
  rcases hk t (by simp) with ⟨h1,h2⟩ | ⟨kb,h1,h2,h4,h5⟩
  ·have e1:dn++(t::ts).map itA=(dn++[z5Z t.core])++ts.map itA:=by
    have hks:t.ks=[]:=by simpa using h1
    simp [z5Z,IT.core,itA,h2,hks,z3Y]
   obtain ⟨K,g1,g2,g3⟩:=z8Y hn ts (dn++[z5Z t.core]) X h3 (fun u hu=>hk u (lA8 _ hu)) hp.2
   exact ⟨K,by rw [e1,e2];exact g1,g2,g3⟩
  ·have hkb:=(lAA.1 h2).1
   obtain ⟨K,g1,g2,g3⟩:=z8Y hn ts (dn++[z5Z t.core]) (X.set kb .dead) h3 (fun u hu=>(hk u (lA8 _ hu)).mono' fun j k b e hj=>z0J hj fun e'=>by
    subst e'
    exact hp.1 u hu kb _ k h1 e) hp.2
   have hcore:z5Z t.core=.agg [.int .i64 t.op,.str t.s,.list 1 (t.ks.map z0w)]:=by
    have:t.ks.isEmpty=false:=by
     cases hks:t.ks with
     | nil=>rw [hks] at h5;exact absurd rfl h5
     | cons a l=>rfl
    simp [z5Z,IT.core,z3Y,this]
   have hf1:z0j (dn++(t::ts).map itA)=z0j dn++([AV.int .i64 t.op,.str t.s,.sl kb 0 t.ks.length 1]++z0j (ts.map itA)):=by
    rw [zAm,lA6,z8D]
    show _++([AV.int .i64 t.op,.str t.s,t.kv]++_)=_
    rw [h1,lAE]
   have hf2:z0j ((dn++[z5Z t.core])++ts.map itA)=(z0j dn++([AV.int .i64 t.op,.str t.s,.sl kb 0 t.ks.length 1]++z0j (ts.map itA))).set ((z0j dn).length+2) (.list 1 (t.ks.map z0w)):=by
    rw [zAm,zAm,hcore,lBC _ _ (by omega),lA2]
    rw [show (z0j dn).length+2-(z0j dn).length=2 by omega]
    rfl
   refine ⟨K,?_,fun j b hj h=>g2 j b hj (z0J h (by omega)),by simpa using g3⟩
   rw [e2]
   refine .step kb _ (by omega) h2 (.cptr _ [.list 3 ((dn++[z5Z t.core])++ts.map itA),m] rfl fun i=>?_) g1
   match i with
   | 0 =>
    refine .list 3 _ _ (by simp) (fun x hx=>?_) fun i=>?_
    ·rcases lBF.1 hx with hx | hx
     ·exact h3 x hx
     ·obtain ⟨u,_,rfl⟩:=lA4.1 hx
      rfl
    ·rw [hf1,hf2,zHv (by simp)]
     split
     ·rename_i e
      subst e
      rw [lAB,lAJ (by omega),show (z0j dn).length+2-(z0j dn).length=2 by omega]
      exact .base _ _ (.sl 0 t.ks.length 1 (t.ks.map z0w) (by simp) (fun y hy=>by
       obtain ⟨q,_,rfl⟩:=lA4.1 hy;rfl) (by rw [z1B (fun y hy=>by
       obtain ⟨q,_,rfl⟩:=lA4.1 hy;rfl),lBL,lCA,lAS (by simp)]) (by simp))
     ·exact .refl _
   | 1=>exact .refl _
   | i+2=>exact .refl _
theorem a74 (e:Ex) (hok:okE e) (hsz:e.size≤1000) (H:z0B):z0D PP 67 [enc e] H (zNU (fun v H'=>v=.cptr [.list 3 ((z4u 0 e).map z5Z),.map (H.length+1)]∧(∀ (j:Nat) (b:Blk),H[j]? =some b→H'[j]? =some b)∧H'[H.length+1]? =some (.map [] 0)∧H.length+2≤H'.length) (fun _ _=>False)):=by
 refine z0D.sealed (n:=H.length) ?_
 refine is67.c1 z0R mixed rfl ?_
 rw [lAK]
 obtain ⟨op,s,nl,l⟩:=e
 have h133:=fun X h1 h2=>a133 (aid:=H.length+2) (mid:=H.length+1) (lo:=H.length+3) (.mk op s nl l) .nilslice [] X h1 h2 hok
 rw [z0a] at h133 ⊢
 refine z1e (z0c ?_)
 refine z1E (.agg [.int .i64 op,.str s,lst nl l]) rfl rfl ?_
 have x1:(H++[Blk.cells [.int .i64 op,.str s,lst nl l]])[H.length]? =some (.cells [.int .i64 op,.str s,lst nl l]):=z0K
 have xo:∀ (j:Nat) (b:Blk),H[j]? =some b→(H++[Blk.cells [.int .i64 op,.str s,lst nl l]])[j]? =some b:=fun j b h=>z0G h
 have xl:(H++[Blk.cells [.int .i64 op,.str s,lst nl l]]:z0B).length=H.length+1:=by simp
 show VV _ _ _ (H++[Blk.cells [.int .i64 op,.str s,lst nl l]]) _ _
 generalize (H++[Blk.cells [.int .i64 op,.str s,lst nl l]]:z0B)=X at *
 refine z0A ?_
 refine zLG ?_
 rw [xl]
 refine z1w (out:=[.nilslice,.map (H.length+1)]) rfl rfl ?_
 refine z1E (.agg [.nilslice,.map (H.length+1)]) rfl rfl ?_
 have yl:(X++[Blk.map [] 0]:z0B).length=H.length+2:=by simp [xl]
 have y2:(X++[Blk.map [] 0]++[.cells [.nilslice,.map (H.length+1)]])[H.length+2]? =some (.cells [.nilslice,.map (H.length+1)]):=by rw [←yl];exact z0K
 have y1:(X++[Blk.map [] 0]++[.cells [.nilslice,.map (H.length+1)]])[H.length+1]? =some (.map [] 0):=by
  refine z0G ?_
  rw [←xl];exact z0K
 have y0:=z0G (G:=[.cells [.nilslice,.map (H.length+1)]]) (z0G (G:=[Blk.map [] 0]) x1)
 have yo:∀ (j:Nat) (b:Blk),H[j]? =some b→(X++[Blk.map [] 0]++[.cells [.nilslice,.map (H.length+1)]])[j]? =some b:=fun j b h=>z0G (z0G (xo j b h))
 have yl3:(X++[Blk.map [] 0]++[.cells [.nilslice,.map (H.length+1)]]:z0B).length=H.length+3:=by simp [xl]
 rw [yl]
 show VV _ _ _ (X++[Blk.map [] 0]++[.cells [.nilslice,.map (H.length+1)]]) _ _
 generalize (X++[Blk.map [] 0]++[.cells [.nilslice,.map (H.length+1)]]:z0B)=Y at *
 have hy:AI (H.length+2) (H.length+1) (H.length+3) .nilslice [] Y:=⟨y2,z3v.nil,fun t ht=>(by cases ht),fun i j a b _ h=>(by simp at h),by omega,by omega⟩
 clear yl x1 xo xl X
 refine z0A ?_
 refine z0L rfl (h133 Y hy (by simp;omega)) ?_ ?_
 rotate_left
 ·rintro u V' ⟨hu,_⟩
  cases hu
 rintro u V ⟨hu,iv,new,vh,vc,vk,vf1,vf2⟩
 cases hu
 simp only [lC0,lDW] at vh vc
 refine z0A ?_
 have hnew:new≠[]:=by
  intro e
  rw [e] at vc
  simp only [z4u] at vc
  cases vc
 obtain ⟨ib,rfl,hgib,hib⟩:∃ ib,iv=.sl ib 0 new.length 3∧V[ib]? =some (.cells (z0j (new.map itA)))∧H.length+3≤ib:=by
  rcases vh.gi.2 with ⟨e,_⟩ | ⟨ib,e,g,g2,_⟩
  ·exact absurd (by simpa using e) hnew
  ·exact ⟨ib,by rw [e,lAE],g,g2⟩
 have hga:=vh.ga
 have hgib2:=z0J (i:=H.length+2) (c:=.dead) hgib (by omega)
 have hki:∀ t∈new,z1D (H.length+3) ((V.set (H.length+2) .dead).set ib .dead) t.kv (t.ks.map z0w):=fun t ht=>by
  have hk:=vh.kids t ht
  have:=z5v vh.gi hk
  refine ((hk.mono (Y:=V.set (H.length+2) .dead) fun j b h1 h2=>z0J h2 (by omega)).mono' fun j k b e h=>z0J h fun e'=>?_)
  subst e'
  exact this ib k _ e rfl
 have hpw:new.Pairwise (fun a b=>∀ x k k',a.kv=.sl x 0 k 1→b.kv≠.sl x 0 k' 1):=by
  rw [lDD]
  intro i j hi hj hij
  exact vh.dis i j _ _ (by omega) (lAG hi) (lAG hj)
 obtain ⟨K,g1,g2,g3⟩:=z8Y (n:=H.length) (m:=.map (H.length+1)) (by omega) new [] _ (fun x hx=>(by cases hx)) hki hpw
 simp only [lC0] at g1
 have e:new.map (fun t=>z5Z t.core)=(z4u 0 (.mk op s nl l)).map z5Z:=by rw [←vc,lB0];rfl
 rw [e] at g1
 have kk:∀ (j:Nat) (b:Blk),j<H.length+2→Y[j]? =some b→K[j]? =some b:=fun j b hj h=>g2 j b (by omega) (z0J (z0J (vk.1 j b (by omega) (fun k e=>by cases e) h) (by omega)) (by omega))
 refine z0Y rfl (.inl ⟨_,_,K,rfl,.step (H.length+2) _ (by omega) hga (.base _ _ (.ptr 0 (by simp))) (.step ib _ (by omega) hgib2 (.cptr _ [.list 3 (new.map itA),.map (H.length+1)] rfl fun i=>?_) g1),rfl,fun j b h=>kk j b (by have:=(lAA.1 h).1;omega) (yo j b h),kk _ _ (by omega) y1,?_⟩)
 ·match i with
  | 0=>exact .base _ _ (.sl 0 new.length 3 (new.map itA) (by simp) vh.gi.1 (by
    have:=z0y vh.gi.1
    rw [lAE] at this
    rw [lBL,←this,lAW]) (by rw [z0y vh.gi.1];simp))
  | 1=>exact .refl _
  | i+2=>exact .refl _
 ·have:=vk.2
  simp only [lCK] at g3
  omega
end Go.Ab
