/- Part 42 of the proof. -/
import Derived.Test.YtagcckioikbanaaGreatDoorA37
import Derived.Test.YtagcckioikbanaaGreatDoorA40
import Derived.Test.YtagcckioikbanaaGreatDoorA41
set_option linter.unusedVariables false
set_option linter.unusedSimpArgs false
namespace Go.Ab
open Go
set_option maxRecDepth 100000
set_option maxHeartbeats 16000000
theorem z3b {sz:Nat} {v:AV} {xs:List AV} (h:Sl sz v xs):v.shaped=true∧v.cells=[v]∧AV.scalar v=true:=by
 cases h<;>exact ⟨rfl,rfl,rfl⟩
theorem zPp {f:List Bt→Bool} {w:List Bt} (h:f w=true) (hw:w≠[]):z4h f w=true:=by
 have hl:0<w.length:=lDX.2 hw
 have key:∀ i,(z3m f w (i+1)).getD w.length false=true:=by
  intro i
  induction i with
  | zero =>
   have hlen:(z9W w.length)[w.length]? =some ((z9W w.length).getD w.length false):=z3W (by simp [z9W])
   have h0:sub w 0 w.length=w:=by unfold sub;simp
   show (zDq f w ((z9W w.length).getD 0 false) (0+1) 0 (z9W w.length)).getD w.length false=true
   unfold zDq
   rw [lAB,List.getElem?_mapIdx,hlen,lBN,lCY,h0,h]
   have:decide (0+1≤w.length)=true:=by rw [lAE];omega
   rw [this]
   simp [z9W]
  | succ i ih =>
   have hlen:(z3m f w (i+1))[w.length]? =some ((z3m f w (i+1)).getD w.length false):=z3W (by rw [z4z];omega)
   show (zDq f w ((z3m f w (i+1)).getD (i+1) false) (i+1+1) (i+1) (z3m f w (i+1))).getD w.length false=true
   unfold zDq
   rw [lAB,List.getElem?_mapIdx,hlen,lBN,lCY,ih,lED]
 unfold z4h
 obtain ⟨n,hn⟩:∃ n,w.length=n+1:=⟨w.length-1,by omega⟩
 have:=key n
 rw [←hn] at this
 exact this
section
variable {D:Nat→List Bt→Bool} {mid:Nat}
theorem zKR.get {av:AV} {ks:List Nat} {fs:List (List Bt→Bool)} (h:zKR D mid av ks fs) {i:Nat} (hi:i<ks.length):∃ k f,ks[i]? =some k∧(ks.map z0k)[i]? =some (z0k k)∧fs[i]? =some f∧z8y D mid av k f:=by
 obtain ⟨k,hk⟩:=z0M (l:=ks) (i:=i) hi
 obtain ⟨f,hf⟩:=z0M (l:=fs) (i:=i) (by rw [←h.1];exact hi)
 exact ⟨k,f,hk,by rw [lAK,hk];rfl,hf,h.2 i k f hk hf⟩
theorem a266 {iv kv wv:AV} {op:Int} {s:Bt} {ks:List Nat} {fs:List (List Bt→Bool)} {w:List Bt} {H:z0B} (hk:Sl 1 kv (ks.map z0k)) (hL:zKR D mid (.cptr [iv,.map mid]) ks fs) (hn:ks.length≤1000000) (hform:Form op ks.length)
  (hs:Sl 1 wv (w.map .str)) (hg:GW w) (hw:w.length≤1000000) (ha:z3u (z1W D) mid H H):z0C PP 227 [.cptr [iv,.map mid],.agg [.int .i64 op,.str s,kv],wv] H (z7K (z1W D) mid H (z2S op [s] fs w)):=by
 refine zUj.c3 z0P mixed rfl ?_
 rw [lAJ]
 have hml:=ha.lt
 have hlen:=hL.1
 have hlw:(w.map AV.str).length=w.length:=lAD _
 have hlk:(ks.map z0k).length=ks.length:=lAD _
 obtain ⟨hk1,hk2,hk3⟩:=z3b hk
 refine z1E (z0V ?_)
 refine z0y (.agg [.int .i64 op,.str s,kv]) rfl (by simp only [AV.shaped,lB3,hk3];first | done | rfl) ?_
 have xb:(H++[Blk.cells [.int .i64 op,.str s,kv]])[H.length]? =some (.cells [.int .i64 op,.str s,kv]):=z0E
 have xi:=ha.app [Blk.cells [.int .i64 op,.str s,kv]]
 show VV _ _ _ (H++[Blk.cells [.int .i64 op,.str s,kv]]) _ _
 have hnm:H.length≠mid:=by omega
 generalize (H++[Blk.cells [.int .i64 op,.str s,kv]]:z0B)=X at *
 have xx:=xi.self
 generalize hav:AV.cptr [iv,.map mid]=av at *
 refine z0A ?_
 cases h0:(op==0)
 rotate_left
 ·obtain rfl:op=0:=by simpa using h0
  refine z0A ?_
  cases hw1:(((w.map AV.str).length:Int)==1)
  ·refine z0A ?_
   refine z0W rfl ⟨?_,xi⟩
   rw [show z2S 0 [s] fs w=(w==[s]) from rfl]
   cases w with
   | nil=>rfl
   | cons a l =>
    cases l with
    | nil=>simp at hw1
    | cons b l =>
     have:(a::b::l==[s])=false:=by simp
     rw [this];rfl
  ·obtain ⟨t,rfl⟩:∃ t,w=[t]:=by
    rw [hlw] at hw1
    match w,hw1 with
    | [t],_=>exact ⟨t,rfl⟩
    | [],h=>simp at h
    | _::_::_,h=>simp at h;omega
   have ht:([t].map AV.str)[0]? =some (.str t):=rfl
   refine z0A ?_
   refine z0W rfl ⟨?_,xi⟩
   rw [show z2S 0 [s] fs [t]=([t]==[s]) from rfl]
   have:([t]==[s])=(t==s):=by simp
   rw [this];rfl
 refine z0A ?_
 cases h1:(op==1)
 rotate_left
 ·obtain rfl:op=1:=by simpa using h1
  refine z0A ?_
  exact z0W rfl ⟨by rw [hlw];rfl,xi⟩
 refine z0A ?_
 cases h2:(op==2)
 rotate_left
 ·obtain rfl:op=2:=by simpa using h2
  refine z0A ?_
  refine z0W rfl ⟨?_,xi⟩
  rw [hlw]
  cases w<;>rfl
 refine z0A ?_
 cases h4:(op==4)
 rotate_left
 ·obtain rfl:op=4:=by simpa using h4
  refine z0A ?_
  refine z0L rfl (a285 hk hL hn hs hg hw xx) ?_ ?_
  rotate_left
  ·rintro u V' ⟨hu,_⟩
   cases hu
  rintro u V1 ⟨hu,hin⟩
  cases hu
  refine z0A ?_
  exact z0W rfl ⟨rfl,xi.trans hin⟩
 refine z0A ?_
 cases h5:(op==5)
 rotate_left
 ·obtain rfl:op=5:=by simpa using h5
  refine z0A ?_
  refine z0H ks.length (fun i al H'=>al=[(0,av),(2,wv),(4,.ptr H.length 0),(7,.int .i64 i)]∧z3u (z1W D) mid X H'∧(fs.take i).any (fun f=>f w)=false) ⟨rfl,xx,by simp⟩ ?_
  rintro i _ V hi ⟨rfl,vi,v1⟩
  have e1:decide ((i:Int)<((ks.map z0k).length:Int))=decide (i<ks.length):=by rw [hlk];simp only [lAP];omega
  have vb:=vi.old hnm xb
  refine z0A ?_
  rw [e1]
  cases hc:decide (i<ks.length)
  ·simp only [lAC] at hc
   have:fs.take i=fs:=lAQ (by omega)
   rw [this] at v1
   refine z0A ?_
   exact z0W rfl ⟨by rw [show z2S 5 [s] fs w=fs.any (fun f=>f w) from rfl,v1];rfl,xi.trans vi⟩
  simp only [lAE] at hc
  obtain ⟨k,f,hki,hkv,hfi,hA⟩:=hL.get hc
  refine z0A ?_
  refine z1B (z2m [mid]) ?_
  refine z0A ?_
  refine z4g (R:=z7K (z1W D) mid V (f w)) rfl (lAL _) rfl (hA V wv w hs hg hw vi.self) ?_ ?_
  rotate_left
  ·rintro u V' ⟨hu,_⟩
   cases hu
  rintro u V1 ⟨hu,hin⟩
  cases hu
  refine ⟨hin.mod,?_⟩
  have vi1:=vi.trans hin
  have vb1:=hin.old hnm vb
  cases hb:f w
  ·refine z0A ?_
   refine z2K (v:=.bool false) rfl ?_
   refine z0A ?_
   refine ⟨by omega,rfl,vi1,?_⟩
   rw [lA1,lDJ,v1,hfi];simp [hb]
  ·refine z0A ?_
   refine z2K (v:=.bool true) rfl ?_
   refine z0A ?_
   refine z0W rfl ⟨?_,xi.trans vi1⟩
   have:fs.any (fun f=>f w)=true:=lA0.2 ⟨f,lAF hfi,hb⟩
   rw [show z2S 5 [s] fs w=fs.any (fun f=>f w) from rfl,this];rfl
 refine z0A ?_
 cases h6:(op==6)
 rotate_left
 ·obtain rfl:op=6:=by simpa using h6
  refine z0A ?_
  refine z0H ks.length (fun i al H'=>al=[(0,av),(2,wv),(4,.ptr H.length 0),(7,.int .i64 i)]∧z3u (z1W D) mid X H'∧(fs.take i).all (fun f=>f w)=true) ⟨rfl,xx,by simp⟩ ?_
  rintro i _ V hi ⟨rfl,vi,v1⟩
  have e1:decide ((i:Int)<((ks.map z0k).length:Int))=decide (i<ks.length):=by rw [hlk];simp only [lAP];omega
  have vb:=vi.old hnm xb
  refine z0A ?_
  rw [e1]
  cases hc:decide (i<ks.length)
  ·simp only [lAC] at hc
   have:fs.take i=fs:=lAQ (by omega)
   rw [this] at v1
   refine z0A ?_
   exact z0W rfl ⟨by rw [show z2S 6 [s] fs w=fs.all (fun f=>f w) from rfl,v1];rfl,xi.trans vi⟩
  simp only [lAE] at hc
  obtain ⟨k,f,hki,hkv,hfi,hA⟩:=hL.get hc
  refine z0A ?_
  refine z1B (z2m [mid]) ?_
  refine z0A ?_
  refine z4g (R:=z7K (z1W D) mid V (f w)) rfl (lAL _) rfl (hA V wv w hs hg hw vi.self) ?_ ?_
  rotate_left
  ·rintro u V' ⟨hu,_⟩
   cases hu
  rintro u V1 ⟨hu,hin⟩
  cases hu
  refine ⟨hin.mod,?_⟩
  have vi1:=vi.trans hin
  have vb1:=hin.old hnm vb
  cases hb:f w
  ·refine z0A ?_
   refine z2K (v:=.bool true) rfl ?_
   refine z0A ?_
   refine z0W rfl ⟨?_,xi.trans vi1⟩
   have:fs.all (fun f=>f w)=false:=List.all_eq_false.2 ⟨f,lAF hfi,by simp [hb]⟩
   rw [show z2S 6 [s] fs w=fs.all (fun f=>f w) from rfl,this];rfl
  ·refine z0A ?_
   refine z2K (v:=.bool false) rfl ?_
   refine z0A ?_
   refine ⟨by omega,rfl,vi1,?_⟩
   rw [lA1,lEE,v1,hfi];simp [hb]
 refine z0A ?_
 cases h7:(op==7)
 rotate_left
 ·obtain rfl:op=7:=by simpa using h7
  have:=hform.two rfl
  obtain ⟨k0,f0,hk0,hkv0,hf0,hA0⟩:=hL.get (i:=0) (by omega)
  obtain ⟨k1,f1,hk1',hkv1,hf1,hA1⟩:=hL.get (i:=1) (by omega)
  have hd:z2S 7 [s] fs w=(f0 w && !f1 w):=by
   show ((fs.getD 0 fun _=>false) w && !(fs.getD 1 fun _=>false) w)=_
   rw [z1j hf0,z1j hf1]
  rw [hd]
  refine z0A ?_
  refine z0L rfl (hA0 X wv w hs hg hw xx) ?_ ?_
  rotate_left
  ·rintro u V' ⟨hu,_⟩
   cases hu
  rintro u V1 ⟨hu,hin⟩
  cases hu
  have vb1:=hin.old hnm xb
  cases hb:f0 w
  ·refine z0A ?_
   exact z0W rfl ⟨rfl,xi.trans hin⟩
  ·refine z0A ?_
   refine z0L rfl (hA1 V1 wv w hs hg hw hin.self) ?_ ?_
   rotate_left
   ·rintro u V' ⟨hu,_⟩
    cases hu
   rintro u V2 ⟨hu,hin2⟩
   cases hu
   refine z0A ?_
   exact z0W rfl ⟨rfl,(xi.trans hin).trans hin2⟩
 refine z0A ?_
 cases h8:(op==8)
 rotate_left
 ·obtain rfl:op=8:=by simpa using h8
  have:=hform.one (.inl rfl)
  obtain ⟨k0,f0,hk0,hkv0,hf0,hA0⟩:=hL.get (i:=0) (by omega)
  have hd:z2S 8 [s] fs w=z4h f0 w:=by
   show z4h (fs.getD 0 fun _=>false) w=_
   rw [z1j hf0]
  rw [hd]
  refine z0A ?_
  refine z0L rfl (a286 hA0 hs hg hw xx) ?_ ?_
  rotate_left
  ·rintro u V' ⟨hu,_⟩
   cases hu
  rintro u V1 ⟨hu,hin⟩
  cases hu
  refine z0A ?_
  exact z0W rfl ⟨rfl,xi.trans hin⟩
 refine z0A ?_
 cases h9:(op==9)
 rotate_left
 ·obtain rfl:op=9:=by simpa using h9
  have:=hform.one (.inr (.inl rfl))
  obtain ⟨k0,f0,hk0,hkv0,hf0,hA0⟩:=hL.get (i:=0) (by omega)
  have hd:z2S 9 [s] fs w=(w.isEmpty&&f0 w || !w.isEmpty&&z4h f0 w):=by
   show ((w.isEmpty&&(fs.getD 0 fun _=>false) w)||(!w.isEmpty&&z4h (fs.getD 0 fun _=>false) w))=_
   rw [z1j hf0]
  rw [hd]
  have he:decide (((w.map AV.str).length:Int)>0) = !w.isEmpty:=by cases w<;>simp
  refine z0A ?_
  rw [he]
  cases hwe:w.isEmpty
  ·refine z0A ?_
   refine z0L rfl (a286 hA0 hs hg hw xx) ?_ ?_
   rotate_left
   ·rintro u V' ⟨hu,_⟩
    cases hu
   rintro u V1 ⟨hu,hin⟩
   cases hu
   have vb1:=hin.old hnm xb
   cases hb:z4h f0 w
   ·have hf0:f0 w=false:=by
     cases h:f0 w
     ·rfl
     ·rw [zPp h (by simpa using hwe)] at hb;cases hb
    refine z0A ?_
    refine z0L rfl (hA0 V1 wv w hs hg hw hin.self) ?_ ?_
    rotate_left
    ·rintro u V' ⟨hu,_⟩
     cases hu
    rintro u V2 ⟨hu,hin2⟩
    cases hu
    rw [hf0]
    refine z0A ?_
    exact z0W rfl ⟨rfl,(xi.trans hin).trans hin2⟩
   ·refine z0A ?_
    exact z0W rfl ⟨rfl,xi.trans hin⟩
  ·refine z0A ?_
   refine z0L rfl (hA0 X wv w hs hg hw xx) ?_ ?_
   rotate_left
   ·rintro u V' ⟨hu,_⟩
    cases hu
   rintro u V2 ⟨hu,hin2⟩
   cases hu
   have hd2:(true&&f0 w || !true&&z4h f0 w)=f0 w:=by simp
   rw [hd2]
   refine z0A ?_
   exact z0W rfl ⟨rfl,xi.trans hin2⟩
 refine z0A ?_
 cases h10:(op==10)
 rotate_left
 ·obtain rfl:op=10:=by simpa using h10
  have:=hform.one (.inr (.inr (.inl rfl)))
  obtain ⟨k0,f0,hk0,hkv0,hf0,hA0⟩:=hL.get (i:=0) (by omega)
  have hd:z2S 10 [s] fs w=(w.isEmpty||f0 w):=by
   show (w.isEmpty||(fs.getD 0 fun _=>false) w)=_
   rw [z1j hf0]
  rw [hd]
  have he:(((w.map AV.str).length:Int)==0)=w.isEmpty:=by cases w<;>simp;omega
  refine z0A ?_
  rw [he]
  cases hwe:w.isEmpty
  ·refine z0A ?_
   refine z0L rfl (hA0 X wv w hs hg hw xx) ?_ ?_
   rotate_left
   ·rintro u V' ⟨hu,_⟩
    cases hu
   rintro u V1 ⟨hu,hin⟩
   cases hu
   refine z0A ?_
   exact z0W rfl ⟨rfl,xi.trans hin⟩
  ·refine z0A ?_
   exact z0W rfl ⟨rfl,xi⟩
 refine z0A ?_
 cases h11:(op==11)
 rotate_left
 ·obtain rfl:op=11:=by simpa using h11
  have:=hform.one (.inr (.inr (.inr (.inl rfl))))
  obtain ⟨k0,f0,hk0,hkv0,hf0,hA0⟩:=hL.get (i:=0) (by omega)
  have hd:z2S 11 [s] fs w=(!f0 w):=by
   show (!(fs.getD 0 fun _=>false) w)=_
   rw [z1j hf0]
  rw [hd]
  refine z0A ?_
  refine z0L rfl (hA0 X wv w hs hg hw xx) ?_ ?_
  rotate_left
  ·rintro u V' ⟨hu,_⟩
   cases hu
  rintro u V1 ⟨hu,hin⟩
  cases hu
  refine z0A ?_
  exact z0W rfl ⟨rfl,xi.trans hin⟩
 refine z0A ?_
 cases h12:(op==12)
 rotate_left
 ·obtain rfl:op=12:=by simpa using h12
  have:=hform.one (.inr (.inr (.inr (.inr rfl))))
  obtain ⟨k0,f0,hk0,hkv0,hf0,hA0⟩:=hL.get (i:=0) (by omega)
  have hd:z2S 12 [s] fs w=zPY f0 w:=by
   show zPY (fs.getD 0 fun _=>false) w=_
   rw [z1j hf0]
  rw [hd]
  refine z0A ?_
  refine z0L rfl (a287 hA0 hs hg hw xx) ?_ ?_
  rotate_left
  ·rintro u V' ⟨hu,_⟩
   cases hu
  rintro u V1 ⟨hu,hin⟩
  cases hu
  refine z0A ?_
  exact z0W rfl ⟨rfl,xi.trans hin⟩
 refine z0A ?_
 have h13:(op==13)=false:=by simpa using hform.no13
 have h15:(op==15)=false:=by simpa using hform.no15
 rw [h13]
 refine z0A ?_
 cases h14:(op==14)
 rotate_left
 ·obtain rfl:op=14:=by simpa using h14
  have:=hform.three rfl
  match ks,fs,hL,this,hk with
  | x::y::z::r,f::g::h::r',hL,_,hk =>
   have hd:z2S 14 [s] (f::g::h::r') w=zFg f g h w:=rfl
   rw [hd]
   refine z0A ?_
   refine z0L rfl (a289 hk (hL.2 0 x f rfl rfl) (hL.2 1 y g rfl rfl) (hL.2 2 z h rfl rfl) hs hg hw xx) ?_ ?_
   ·rintro u V1 ⟨hu,hin⟩
    cases hu
    refine z0A ?_
    exact z0W rfl ⟨rfl,xi.trans hin⟩
   ·rintro u V' ⟨hu,_⟩
    cases hu
  | x::y::z::r,[],hL,_,_=>exact absurd hL.1 (by simp)
  | x::y::z::r,[_],hL,_,_=>exact absurd hL.1 (by simp)
  | x::y::z::r,[_,_],hL,_,_=>exact absurd hL.1 (by simp)
 refine z0A ?_
 refine z0W rfl ⟨?_,xi⟩
 have hd:z2S op [s] fs w=false:=by
  unfold z2S
  simp only [z2E h0,z2E h1,z2E h2,z2E h4,z2E h5,z2E h6,z2E h7,z2E h8,z2E h9,z2E h10,z2E h11,z2E h12,z2E h14,if_false]
 rw [hd];rfl
end
structure IT where
 op:Int
 s:Bt
 kv:AV
 ks:List Nat
def itA (t:IT):AV:=.agg [.int .i64 t.op,.str t.s,t.kv]
def IT.core (t:IT):Int × Bt × List Nat:=(t.op,t.s,t.ks)
mutual
def z5Q (n:Nat):Ex→List (Int × Bt × List Nat)
 | .mk op s _ l=>(op,s,z3D (n+1) l)::z4b (n+1) l
def z4b (n:Nat):List Ex→List (Int × Bt × List Nat)
 | []=>[]
 | x::l=>z5Q n x++z4b (n+x.size) l
def z3D (n:Nat):List Ex→List Nat
 | []=>[]
 | x::l=>n::z3D (n+x.size) l
end
theorem zCv (x:Ex):∀ (l:List Ex) (n:Nat),z3D n (l++[x])=z3D n l++[n+z0Z l]
 | [],n=>by simp [z3D,z0Z]
 | y::l,n=>by
  simp only [lB8,z3D,zCv x l,z0Z]
  rw [lBS]
theorem zBX (x:Ex):∀ (l:List Ex) (n:Nat),z4b n (l++[x])=z4b n l++z5Q (n+z0Z l) x
 | [],n=>by simp [z4b,z0Z]
 | y::l,n=>by
  simp only [lB8,z4b,zBX x l,z0Z,lA3]
  rw [lBS]
theorem z6x:∀ (e:Ex) (n:Nat),(z5Q n e).length=e.size:=by
 intro e
 induction e using Ex.rec (motive_2:=fun l=>∀ n,(z4b n l).length=z0Z l) with
 | mk op s nl l ih =>
  intro n
  simp only [z5Q,lBC,Ex.size,ih];omega
 | nil=>rfl
 | cons x l h1 h2=>simp only [z4b,lAH,h1,h2,z0Z]
theorem zLF (l:List Ex):∀ n,(z4b n l).length=z0Z l:=by
 induction l with
 | nil=>intro n;rfl
 | cons x l h=>intro n;simp only [z4b,lAH,z6x,h,z0Z]
theorem zBQ:∀ (l:List Ex) (n:Nat),(z3D n l).length=l.length
 | [],n=>rfl
 | y::l,n=>by simp only [z3D,lBC,zBQ l]
theorem z8p (a:AV) (l:List AV):z0d (a::l)=a.cells++z0d l:=rfl
theorem zRZ:∀ {its:List IT} {k:Nat} {t:IT},its[k]? =some t→(z0d (its.map itA))[k*3+2]? =some t.kv
 | t::its,0,u,h=>by
  simp only [lAY,Option.some.injEq] at h
  subst h;rfl
 | t::its,k+1,u,h=>by
  simp only [lBD] at h
  have:=zRZ h
  rw [lBA,z8p]
  show ([AV.int .i64 t.op,.str t.s,t.kv]++z0d (its.map itA))[(k+1)*3+2]? =_
  rw [lAM (by simp;omega)]
  simp only [lBC,lC5]
  rw [show (k+1)*3+2-3=k*3+2 by omega];exact this
theorem zRY {ks:List Nat} {v:AV}:∀ {its:List IT} {k:Nat} {t:IT},its[k]? =some t→(z0d (its.map itA)).set (k*3+2) v=z0d ((its.set k ⟨t.op,t.s,v,ks⟩).map itA)
 | t::its,0,u,h=>by
  simp only [lAY,Option.some.injEq] at h
  subst h;rfl
 | t::its,k+1,u,h=>by
  simp only [lBD] at h
  have:=zRY (ks:=ks) (v:=v) h
  rw [lBA,z8p,List.set_cons_succ,lBA,z8p,←this]
  show ([AV.int .i64 t.op,.str t.s,t.kv]++z0d (its.map itA)).set ((k+1)*3+2) v=[AV.int .i64 t.op,.str t.s,t.kv]++_
  rw [lA6 _ _ (by simp;omega)]
  simp only [lBC,lC5]
  rw [show (k+1)*3+2-(0+1+1+1)=k*3+2 by omega]
structure AI (aid mid lo:Nat) (iv:AV) (its:List IT) (X:z0B):Prop where
 ga:X[aid]? =some (.cells [iv,.map mid])
 gi:z2h 3 lo X iv (its.map itA)
 kids:∀ t∈its,z1R lo X t.kv (t.ks.map z0k)
 dis:∀ (i j:Nat) (a b:IT),i≠j→its[i]? =some a→its[j]? =some b→∀ x k k',a.kv=.sl x 0 k 1→b.kv≠.sl x 0 k' 1
 al:aid<lo
 ll:lo≤X.length
def zPS (aid:Nat) (iv:AV) (X Y:z0B):Prop:=(∀ (j:Nat) (b:Blk),j≠aid→(∀ k,iv≠.sl j 0 k 3)→X[j]? =some b→Y[j]? =some b)∧X.length≤Y.length
theorem zZQ {its:List IT} {ks:List Nat} (h:its≠[]):Blk.cells (z0d (its.map itA))≠.cells (ks.map z0k):=by
 intro e
 injection e with e
 cases its with
 | nil=>exact h rfl
 | cons t its =>
  have h1:(z0d ((t::its).map itA))[1]? =some (.str t.s):=rfl
  rw [e,lAK] at h1
  cases hk:ks[1]? with
  | none=>rw [hk] at h1;cases h1
  | some a=>rw [hk] at h1;cases h1
theorem AI.scalar {aid mid lo:Nat} {iv:AV} {its:List IT} {X:z0B} (h:AI aid mid lo iv its X):∀ t∈its,AV.scalar t.kv=true:=fun t ht=>by
 rcases h.kids t ht with ⟨_,e⟩ | ⟨kb,e,_⟩
 ·rw [e];rfl
 ·rw [e];rfl
theorem AI.to {aid mid lo:Nat} {iv:AV} {its:List IT} {X Y:z0B} (h:AI aid mid lo iv its X) (hp:∀ (j:Nat) (b:Blk),j=aid∨lo≤j→X[j]? =some b→Y[j]? =some b) (hl:X.length≤Y.length):AI aid mid lo iv its Y :=
 ⟨hp _ _ (.inl rfl) h.ga,h.gi.mono fun j b h1 h2=>hp j b (.inr h1) h2,fun t ht=>(h.kids t ht).mono fun j b h1 h2=>hp j b (.inr h1) h2,h.dis,h.al,lBK h.ll hl⟩
theorem AI.app {aid mid lo:Nat} {iv:AV} {its:List IT} {X:z0B} (h:AI aid mid lo iv its X) (G:z0B):AI aid mid lo iv its (X++G):=h.to (fun _ _ _ h=>z0G h) (by simp)
theorem zSC {P:Program} {H:z0B} {al:AL} {K:KL} {Qp:AL→AV→z0B→Prop} {os:List IOper} {x y:Arg} {id:Nat} {kv a b:AV} {sz:Nat} (hs:kv=.nilslice∨∃ kb k,kv=.sl kb 0 k sz) (hx:evL al x=.ptr id (0+0)) (hy:evL al y=kv) (hg:H[id]? =some (.cells [a,b])) (h:VV P os al (H.set id (.cells [kv,b])) K Qp) :
  VV P (⟨none,.i (.m (.store 1)),[x,y],none,none⟩::os) al H K Qp:=by
 rcases hs with rfl | ⟨kb,k,rfl⟩
 ·exact z0h .nilslice hx hy hg rfl rfl rfl h
 ·exact z0h (.sl kb 0 k sz) hx hy hg rfl rfl rfl h
theorem zMJ {P:Program} {H:z0B} {al:AL} {K:KL} {Qp:AL→AV→z0B→Prop} {os:List IOper} {x y:Arg} {id p:Nat} {kv:AV} {cs:List AV} {sz:Nat} (hs:kv=.nilslice∨∃ kb k,kv=.sl kb 0 k sz) (hx:evL al x=.ptr id p) (hy:evL al y=kv) (hg:H[id]? =some (.cells cs)) (hp:p<cs.length) (h:VV P os al (H.set id (.cells (cs.set p kv))) K Qp) :
  VV P (⟨none,.i (.m (.store 1)),[x,y],none,none⟩::os) al H K Qp:=by
 have e:∀ v:AV,z3B cs p [v]=cs.set p v:=by
  intro v
  unfold z3B
  rw [lC6,if_pos hp]
  simp
 have hb:decide (p+1≤cs.length)=true:=by rw [lAE];omega
 rcases hs with rfl | ⟨kb,k,rfl⟩
 ·exact z0h .nilslice hx hy hg (by simp only [AV.shaped,AV.cells,lBZ,hb];rfl) (e _) rfl h
 ·exact z0h (.sl kb 0 k sz) hx hy hg (by simp only [AV.shaped,AV.cells,lBZ,hb];rfl) (e _) rfl h
section steps
variable {P:Program} {H G:z0B} {al:AL} {K:KL} {Qp:AL→AV→z0B→Prop} {os:List IOper} {d:Nat} {x y z:Arg}
theorem z3w {sz lo bytes:Nat} {v:AV} {l:List AV} {cs:List AV} {X:z0B} (hx:evL al x=v) (ho:z2h sz lo X v l) (hy:evL al y=.sl X.length 0 1 sz) (hcs:cs.length=sz) (hsc:cs.all AV.scalar=true)
  (hb:(l.length+1)*bytes≤140737488355328) (hlo:lo≤X.length)
  (h:∀ v' H',z2h sz lo H' v' (l++[.agg cs])→(∀ (j:Nat) (b:Blk),(∀ k,v≠.sl j 0 k sz)→X[j]? =some b→H'[j]? =some b)→X.length≤H'.length→(∀ j k,v'=.sl j 0 k sz→X.length≤j)→VV P os ((d,v')::al) H' K Qp) :
  VV P (⟨some d,.i (.m (.append sz bytes)),[x,y],none,none⟩::os) al (X++[.cells cs]) K Qp:=by
 obtain ⟨h0,ho⟩:=ho
 have hel:∀ x∈l++[.agg cs],x.cells.length=sz:=by
  intro x hx
  rcases lA5.1 hx with hx | hx
  ·exact h0 x hx
  ·rw [lAR] at hx;subst hx;exact hcs
 rcases ho with ⟨rfl,rfl⟩ | ⟨id,rfl,h3,h4,h5⟩
 ·refine z3x (m:=1) (ys:=cs) hx (by rw [hy];exact z2L (by omega)) (by omega) hsc (by simpa using hb) ?_
  refine h _ _ ⟨hel,.inr ⟨_,rfl,?_,by rw [lAH];omega,by simp⟩⟩ (fun j b hj hb=>z0G (z0G hb)) (by rw [lAH,lAH];omega) (fun j k e=>by injection e with e;rw [lAH] at e;omega)
  rw [zAT]
  simp [z0d,AV.cells]
 ·have hlt:=(lAA.1 h3).1
  have hfl:(z0d l).length=l.length*sz:=z0t h0
  refine z4G (m:=1) (ys:=cs) hx (z0G h3) (by omega) (by rw [hy];exact z2L (by omega)) hsc hb ?_
  refine h _ _ ⟨hel,.inr ⟨(X++[Blk.cells cs]).length,by rw [show (l++[AV.agg cs]).length=l.length+1 by simp],?_,by rw [lAH];omega,by simp⟩⟩ (fun j b hj hb=>?_) (by rw [lAH,lCC,lAH];omega) (fun j k e=>by injection e with e;rw [lAH] at e;omega)
  ·rw [lAM (by simp)]
   simp only [lCC,lBG,lAY]
   rw [lBP,←hfl,lAW,z3f]
   simp [z0d,AV.cells]
  ·have:=(lAA.1 hb).1
   have hne:id≠j:=fun e=>hj l.length (by rw [e])
   rw [lAN (by simp;omega),lBF,if_neg hne]
   exact z0G hb
theorem z8N {lo bytes:Nat} {kv e:AV} {l:List AV} (hx:evL al x=kv) (ho:z1R lo H kv l) (hy:evL al y=.sl H.length 0 1 1) (hsc:AV.scalar e=true) (hall:l.all AV.scalar=true) (hb:(l.length+1)*bytes≤140737488355328) (hlo:lo≤H.length)
  (h:∀ kv' H',z1R lo H' kv' (l++[e])→(∀ (j:Nat) (b:Blk),(∀ k,kv≠.sl j 0 k 1)→H[j]? =some b→H'[j]? =some b)→H.length≤H'.length→(∀ j k,kv'=.sl j 0 k 1→H.length≤j)→VV P os ((d,kv')::al) H' K Qp) :
  VV P (⟨some d,.i (.m (.append 1 bytes)),[x,y],none,none⟩::os) al (H++[.cells [e]]) K Qp:=by
 have hys:z1m 1 (H++[.cells [e]]) (evL al y)=some (1,[e]):=by rw [hy];exact z2L (by simp)
 rcases ho with ⟨rfl,rfl⟩ | ⟨id,rfl,h2,h3,_⟩
 ·refine z3x hx hys (by omega) (by simp [hsc]) (by simpa using hb) (h _ _ (.inr ⟨_,rfl,z0E,by simp;omega,by simp⟩) (fun j b _ hj=>z0G (z0G hj)) (by simp) (fun j k e=>by injection e with e;rw [lAH] at e;omega))
 ·have hid:=(lAA.1 h2).1
  refine z4G hx (z0G h2) (by omega) hys (by simp [hsc]) (by simpa using hb) ?_
  have hl:((l.drop 0).take (l.length*1)++[e])=l++[e]:=by rw [lBP,lCB,lAW]
  rw [hl]
  have hln:((H++[.cells [e]]:z0B).set id .dead).length=(H++[.cells [e]]:z0B).length:=by simp
  rw [←hln]
  refine h _ _ (.inr ⟨_,by simp,z0E,by rw [hln];simp;omega,by simp⟩) (fun j b hn hj=>?_) (by simp;omega) (fun j k e=>by injection e with e;rw [hln,lAH] at e;omega)
  have hne:id≠j:=fun e=>hn l.length (by rw [e])
  exact z0G (z0K (z0G hj) hne)
end steps
theorem z6a {lo:Nat} {its:List IT} {iv kv:AV} {ks:List Nat} {Y:z0B} (hi:z2h 3 lo Y iv (its.map itA)) (hk:z1R lo Y kv (ks.map z0k)):∀ x k k',kv=.sl x 0 k 1→iv≠.sl x 0 k' 3:=by
 intro x k k' e e'
 subst e;subst e'
 rcases hi.2 with ⟨_,h⟩ | ⟨ib,h,h1,_,h2⟩
 ·cases h
 ·injection h with h
  rcases hk with ⟨_,g⟩ | ⟨kb,g,g1,_,_⟩
  ·cases g
  ·injection g with g
   subst h;subst g
   exact zHW h1 g1 (zZQ (by intro e;rw [e] at h2;exact h2 rfl)) rfl
theorem AI.push {aid mid lo:Nat} {iv iv1:AV} {its:List IT} {Y Y1:z0B} {op:Int} {s:Bt} (h:AI aid mid lo iv its Y) (hko:z2h 3 lo Y1 iv1 ((its++([⟨op,s,.nilslice,[]⟩]:List IT)).map itA))
  (hpres:∀ (j:Nat) (b:Blk),(∀ k,iv≠.sl j 0 k 3)→Y[j]? =some b→Y1[j]? =some b) (hlen:Y.length≤Y1.length):AI aid mid lo iv1 (its++([⟨op,s,.nilslice,[]⟩]:List IT)) (Y1.set aid (.cells [iv1,.map mid])):=by
 have hal:=h.al
 have hll:=h.ll
 refine ⟨lAT (by omega),hko.mono fun j b h1 h2=>z0K h2 (by omega),fun t ht=>?_,fun i j a b hij ha hb x k k' e=>?_,hal,by simp;omega⟩
 ·rcases lA5.1 ht with ht | ht
  ·have hk:=h.kids t ht
   have:=z6a h.gi hk
   exact (hk.mono' (Y:=Y1) fun j k b e hj=>hpres j b (fun k'=>this j k k' e) hj).mono fun j b h1 h2=>z0K h2 (by omega)
  ·simp only [lAR] at ht
   subst ht
   exact .inl ⟨rfl,rfl⟩
 ·intro e'
  have hi:i<its.length:=by
   rcases lBJ i its.length with h | h
   ·exact h
   ·rw [lAM h] at ha
    cases hd:i-its.length with
    | zero=>rw [hd] at ha;simp only [lAY,Option.some.injEq] at ha;subst ha;cases e
    | succ n=>rw [hd] at ha;simp at ha
  have hj:j<its.length:=by
   rcases lBJ j its.length with h | h
   ·exact h
   ·rw [lAM h] at hb
    cases hd:j-its.length with
    | zero=>rw [hd] at hb;simp only [lAY,Option.some.injEq] at hb;subst hb;cases e'
    | succ n=>rw [hd] at hb;simp at hb
  rw [lAN hi] at ha
  rw [lAN hj] at hb
  exact h.dis i j a b hij ha hb x k k' e e'
theorem AI.kid {aid mid lo ib k n:Nat} {its:List IT} {t:IT} {kv':AV} {Y Y1:z0B} (h:AI aid mid lo (.sl ib 0 its.length 3) its Y) (ht:its[k]? =some t) (hk:z1R lo Y1 kv' ((t.ks++[n]).map z0k))
  (hpres:∀ (j:Nat) (b:Blk),(∀ k,t.kv≠.sl j 0 k 1)→Y[j]? =some b→Y1[j]? =some b) (hlen:Y.length≤Y1.length) (hf:∀ j k,kv'=.sl j 0 k 1→Y.length≤j) :
  AI aid mid lo (.sl ib 0 its.length 3) (its.set k ⟨t.op,t.s,kv',t.ks++[n]⟩) (Y1.set ib (.cells ((z0d (its.map itA)).set (k*3+2) kv'))):=by
 have hal:=h.al
 have hll:=h.ll
 have hkt:=(lAA.1 ht).1
 have htk:=h.kids t (lAF ht)
 obtain ⟨hc,⟨_,e⟩ | ⟨ib',e,gi,hib,hne⟩⟩:=h.gi
 ·cases e
 injection e with e
 subst e
 have hil:=(lAA.1 gi).1
 have hki:=z6a h.gi htk
 have old:∀ j u,j≠k→its[j]? =some u→z1R lo (Y1.set ib (.cells ((z0d (its.map itA)).set (k*3+2) kv'))) u.kv (u.ks.map z0k):=fun j u hj hu=>by
  have hku:=h.kids u (lAF hu)
  have h1:=z6a h.gi hku
  exact (hku.mono' (Y:=Y1) fun x q b e hx=>hpres x b (fun k'=>h.dis j k u t hj hu ht x q k' e) hx).mono' fun x q b e hx=>z0K hx fun e'=>by subst e';exact h1 ib q its.length e rfl
 refine ⟨z0K (hpres _ _ (htk.ne hal) h.ga) (by omega),⟨fun x hx=>?_,.inr ⟨ib,by simp,?_,hib,?_⟩⟩,fun u hu=>?_,fun i j a b hij ha hb x q q' e e'=>?_,hal,by simp;omega⟩
 ·obtain ⟨u,_,rfl⟩:=lBB.1 hx
  rfl
 ·rw [lAT (by omega),zRY (ks:=t.ks++[n]) ht]
 ·intro e
  rw [List.map_eq_nil_iff] at e
  have:=congrArg List.length e
  simp at this
  subst this
  simp at hkt
 ·obtain ⟨j,hj,rfl⟩:=lBW.1 hu
  rw [lCC] at hj
  rw [List.getElem_set]
  split
  ·exact hk.mono' fun x q b e hx=>z0K hx fun e'=>by have:=hf x q e;omega
  ·rename_i hjk
   exact old j _ (fun e=>hjk e.symm) (lAG hj)
 ·rw [lBF] at ha hb
  have hfr:∀ (y:Nat) (u:IT) (z q q':Nat),its[y]? =some u→u.kv=.sl z 0 q 1→kv'=.sl z 0 q' 1→False:=fun y u z q q' hu e1 e2=>by
   have:=hf z q' e2
   rcases h.kids u (lAF hu) with ⟨_,g⟩ | ⟨kb,g,g1,_,_⟩
   ·rw [g] at e1;cases e1
   ·rw [g] at e1
    injection e1 with e1
    have:=(lAA.1 g1).1
    omega
  split at ha
  ·split at hb
   ·omega
   ·injection ha with ha
    subst ha
    exact hfr j b x q' q hb e' e
  ·split at hb
   ·injection hb with hb
    subst hb
    exact hfr i a x q q' ha e e'
   ·exact h.dis i j a b hij ha hb x q q' e e'
def zYj (aid mid lo:Nat) (iv:AV) (its:List IT) (e:Ex) (X:z0B):z2g:=fun r Y=>r=.ret (.int .i64 its.length)∧∃ iv' new,AI aid mid lo iv' (its++new) Y∧new.map IT.core=z5Q its.length e∧zPS aid iv X Y ∧
 (∀ j k,iv'=.sl j 0 k 3→X.length≤j)∧∀ t∈new,∀ j k,t.kv=.sl j 0 k 1→X.length≤j
theorem zHB {P:Program} {H X:z0B} {al:AL} {K:KL} {Qp:AL→AV→z0B→Prop} {os:List IOper} {d:Nat} {x:Arg} {sz lo:Nat} {v:AV} {l:List AV} (hx:evL al x=v) (ho:z2h sz lo X v l) (h:VV P os ((d,.int .i64 l.length)::al) H K Qp) :
  VV P (⟨some d,.i (.d .len),[x],none,none⟩::os) al H K Qp:=by
 rcases ho.2 with ⟨rfl,rfl⟩ | ⟨id,rfl,_⟩
 ·exact z2K (v:=.int .i64 0) (by simp only [z1G,hx];rfl) h
 ·exact z2K (v:=.int .i64 l.length) (by simp only [z1G,hx];rfl) h
theorem a133 {aid mid lo:Nat}:∀ (e:Ex) (iv:AV) (its:List IT) (X:z0B),AI aid mid lo iv its X→its.length+e.size≤100000→okE e→z0C PP 126 [.ptr aid 0,enc e] X (zYj aid mid lo iv its e X)
 | .mk op s nl l,iv,its,X,h,hn,hok=>by
  refine zVX.c2 z0P mixed rfl ?_
  rw [z0e,lAJ]
  have hll:=h.ll
  have hal:=h.al
  simp only [Ex.size] at hn
  refine z1E (z0V ?_)
  refine z0y (.agg [.int .i64 op,.str s,lst nl l]) rfl rfl ?_
  have y3:(X++[Blk.cells [.int .i64 op,.str s,lst nl l]])[X.length]? =some (.cells [.int .i64 op,.str s,lst nl l]):=z0E
  have yh:=h.app [Blk.cells [.int .i64 op,.str s,lst nl l]]
  have yo:∀ (j:Nat) (b:Blk),X[j]? =some b→(X++[Blk.cells [.int .i64 op,.str s,lst nl l]])[j]? =some b:=fun j b h=>z0G h
  have yl:(X++[Blk.cells [.int .i64 op,.str s,lst nl l]]:z0B).length=X.length+1:=by simp
  have ybi:=h.gi.lt (lAL X.length)
  show VV _ _ _ (X++[Blk.cells [.int .i64 op,.str s,lst nl l]]) _ _
  generalize (X++[Blk.cells [.int .i64 op,.str s,lst nl l]]:z0B)=Y at *
  have ya:=yh.ga
  have hml:(its.map itA).length=its.length:=lAD _
  refine z0A ?_
  refine zHB rfl yh.gi ?_
  rw [hml]
  refine z0A ?_
  refine z4N (z2D [aid,X.length]) ?_
  refine z0A ?_
  refine z0s (out:=[.int .i64 op,.str s,.nilslice]) rfl rfl ?_
  refine z0A ?_
  refine zEp rfl rfl (lAL _) ?_
  refine z0S (out:=[.int .i64 op,.str s,.nilslice]) rfl ?_
  refine z1k z2M ?_
  refine zEp rfl rfl (by simp) ?_
  refine z3w (v:=iv) rfl yh.gi rfl rfl rfl (by omega) yh.ll ?_
  intro iv1 Y1 hko hpres hlen hfr
  have hlo:∀ j,j<lo→∀ k,iv≠.sl j 0 k 3:=fun j hj=>yh.gi.ne hj
  have u3:=hpres _ _ ybi y3
  have ua:=hpres _ _ (hlo _ hal) ya
  have hl3:=(lAA.1 y3).1
  refine z1k (z0c fun j hj b hb'=>?_) ?_
  ·simp only [lAV,lA7,or_false] at hj
   have hjl:j<Y.length:=by omega
   rw [lAN hjl] at hb'
   rcases hj with rfl | rfl
   ·exact hpres _ _ (hlo _ hal) hb'
   ·exact hpres _ _ ybi hb'
  refine z0A ?_
  refine zRN rfl rfl rfl (by omega) ?_
  refine zSC hko.shape rfl rfl ua ?_
  refine z4W ?_
  have hmo:its.map itA++[.agg [.int .i64 op,.str s,.nilslice]]=(its++([⟨op,s,.nilslice,[]⟩]:List IT)).map itA:=by rw [lBE];rfl
  rw [hmo] at hko
  have zh:=yh.push hko hpres hlen
  have z3:=z0K (i:=aid) (c:=.cells [iv1,.map mid]) u3 (by omega)
  have zk:zPS aid iv X (Y1.set aid (.cells [iv1,.map mid])):=⟨fun j b h1 h2 h3=>z0K (hpres j b h2 (yo j b h3)) (fun e=>h1 e.symm),by simp;omega⟩
  generalize Y1.set aid (.cells [iv1,.map mid])=Z at *
  have hsl:=z5G nl l
  have hlen2:(l.map enc).length=l.length:=lAD _
  have hll2:l.length≤100000:=by have:=z1U l;omega
  clear ua u3 hpres hko ya y3 yh yo hlo
  refine z0A ?_
  refine z0H l.length (fun i al W=>al=[(0,.ptr aid 0),(3,.ptr X.length 0),(5,.int .i64 its.length),(6,.int .i64 i)]∧∃ iv' kv new,AI aid mid lo iv' (its++⟨op,s,kv,z3D (its.length+1) (l.take i)⟩::new) W∧new.map IT.core=z4b (its.length+1) (l.take i)∧W[X.length]? =some (.cells [.int .i64 op,.str s,lst nl l])∧zPS aid iv X W ∧
   (∀ j k,iv'=.sl j 0 k 3→X.length+1≤j)∧(∀ j k,kv=.sl j 0 k 1→X.length+1≤j)∧∀ t∈new,∀ j k,t.kv=.sl j 0 k 1→X.length≤j) ⟨rfl,iv1,.nilslice,[],zh,rfl,z3,zk,fun j k e=>by have:=hfr j k e;omega,fun j k e=>(by cases e),fun t ht=>(by cases ht)⟩ ?_
  clear zh z3 zk Z
  rintro i _ W hi ⟨rfl,iv2,kv2,new,wh,wc,w3,wk,wf1,wf2,wf3⟩
  have e1:decide ((i:Int)<((l.map enc).length:Int))=decide (i<l.length):=by rw [hlen2];simp only [lAP];omega
  have hnl:new.length=z0Z (l.take i):=by
   have:=congrArg List.length wc
   rw [lAD,zLF] at this
   exact this
  refine z0A ?_
  rw [e1]
  cases hc:decide (i<l.length)
  ·simp only [lAC] at hc
   have:l.take i=l:=lAQ (by omega)
   rw [this] at wh wc
   refine z0A ?_
   refine z0W rfl ⟨rfl,iv2,_,wh,?_,wk,fun j k e=>by have:=wf1 j k e;omega,fun t ht j k e=>?_⟩
   ·rw [lBA,wc]
    simp only [IT.core,z5Q]
   ·rcases lAV.1 ht with rfl | ht
    ·have:=wf2 j k e;omega
    ·exact wf3 t ht j k e
  simp only [lAE] at hc
  obtain ⟨c,hci⟩:=z0M (l:=l) (i:=i) hc
  have hcm:=lAF hci
  have hsz:=z5H hci
  have hszl:=z6r l (i+1)
  have hcw:=zEm hcm
  have htk:l.take (i+1)=l.take i++[c]:=by rw [lA1,hci];rfl
  have hll3:(its++⟨op,s,kv2,z3D (its.length+1) (l.take i)⟩::new:List IT).length=its.length+1+z0Z (l.take i):=by simp [hnl];omega
  have ih:=a133 (aid:=aid) (mid:=mid) (lo:=lo) c iv2 _ W wh (by rw [hll3];omega) (by unfold okE at hok ⊢;simp only [Ex.w] at hok;omega)
  unfold zYj at ih
  rw [hll3] at ih
  obtain ⟨ca,cb,cc,hec⟩:=zGU c
  have hu:(l.map enc)[i]? =some (.agg [ca,cb,cc]):=by rw [lAK,hci,←hec];rfl
  rw [hec] at ih
  refine z0A ?_
  refine z0L rfl ih ?_ ?_
  rotate_left
  ·rintro u V' ⟨hu,_⟩
   cases hu
  rintro u V ⟨hu,iv3,new2,vh,vc,vk,vf1,vf2⟩
  cases hu
  have hWl:=wk.2
  have hXW:=(lAA.1 w3).1
  have v3:=vk.1 _ _ (by omega) (fun k e=>by have:=wf1 _ k e;omega) w3
  have vkX:zPS aid iv X V:=⟨fun j b h1 h2 h3=>vk.1 j b h1 (fun k e=>by
   have:=wf1 j k e
   have:=(lAA.1 h3).1
   omega) (wk.1 j b h1 h2 h3),lBK hWl vk.2⟩
  have hVl:=vk.2
  rw [lA3,lB8] at vh
  obtain ⟨ib,rfl⟩:∃ ib,iv3=.sl ib 0 (its++(⟨op,s,kv2,z3D (its.length+1) (l.take i)⟩:IT)::(new++new2)).length 3:=by
   rcases vh.gi.2 with ⟨e,_⟩ | ⟨ib,e,_⟩
   ·simp at e
   ·exact ⟨ib,by rw [e,lAD]⟩
  have hkt:(its++(⟨op,s,kv2,z3D (its.length+1) (l.take i)⟩:IT)::(new++new2))[its.length]? =some ⟨op,s,kv2,z3D (its.length+1) (l.take i)⟩:=by
   rw [lAM (lAL _),lBG];rfl
  have hset:∀ t:IT,(its++(⟨op,s,kv2,z3D (its.length+1) (l.take i)⟩:IT)::(new++new2)).set its.length t=its++t::(new++new2):=fun t=>by
   rw [lA6 _ _ (lAL _),lBG];rfl
  have hlt:its.length<(its++(⟨op,s,kv2,z3D (its.length+1) (l.take i)⟩:IT)::(new++new2)).length:=by simp
  have va:=vh.ga
  have hkid:=vh.kids _ (lAF hkt)
  have hcell:=zRZ hkt
  simp only at hkid hcell
  obtain ⟨gcells,hgib⟩:∃ c,V[ib]? =some (.cells c)∧c=z0d ((its++(⟨op,s,kv2,z3D (its.length+1) (l.take i)⟩:IT)::(new++new2)).map itA):=by
   rcases vh.gi.2 with ⟨e,_⟩ | ⟨ib',e,g,_,_⟩
   ·simp at e
   ·injection e with e
    subst e
    exact ⟨_,g,rfl⟩
  obtain ⟨hgib,rfl⟩:=hgib
  have hibx:=vf1 ib _ rfl
  have hibl:=(lAA.1 hgib).1
  have hiba:aid≠ib:=by omega
  have hfl:(z0d ((its++(⟨op,s,kv2,z3D (its.length+1) (l.take i)⟩:IT)::(new++new2)).map itA)).length=(its++(⟨op,s,kv2,z3D (its.length+1) (l.take i)⟩:IT)::(new++new2)).length*3:=by
   rw [z0t vh.gi.1,lAD]
  have hkl:((z3D (its.length+1) (l.take i)).map z0k).length≤100000:=by
   have:=z1U (l.take i)
   rw [lAD,zBQ,lBR];omega
  have hsk:=hkid
  generalize hall:(its++(⟨op,s,kv2,z3D (its.length+1) (l.take i)⟩:IT)::(new++new2))=all at *
  refine z0A ?_
  refine z4N (z2D [aid,ib]) ?_
  refine z6J ?_
  refine z1s (v:=kv2) rfl hgib (by rw [lBH];exact hcell) ?_
  refine zDd ?_
  refine z6J ?_
  refine zEp rfl rfl (lAL _) ?_
  refine z0S (out:=[z0k (its.length+1+z0Z (l.take i))]) rfl ?_
  refine z1k z2M ?_
  refine zEp rfl rfl (by simp) ?_
  refine z8N (kv:=kv2) rfl hkid rfl rfl (z2t _) (by omega) vh.ll ?_
  intro kv' V1 hko hpres hlen1 hfr1
  have hka:∀ k,kv2≠.sl aid 0 k 1:=hkid.ne hal
  have hki:=z6a vh.gi hkid
  have hkb:∀ k,kv2≠.sl ib 0 k 1:=fun k e=>hki ib k _ e rfl
  have ub:=hpres _ _ hkb hgib
  have hal2:=(lAA.1 va).1
  refine z1k (z0c fun j hj b hb'=>?_) ?_
  ·simp only [lAV,lA7,or_false] at hj
   have hjl:j<V.length:=by omega
   rw [lAN hjl] at hb'
   rcases hj with rfl | rfl
   ·exact hpres _ _ hka hb'
   ·exact hpres _ _ hkb hb'
  refine z6J ?_
  refine zRN rfl rfl rfl (by omega) ?_
  refine zMJ (p:=0+its.length*3+2) hko.shape rfl rfl ub (by omega) ?_
  refine z4W ?_
  have hmo2:(z3D (its.length+1) (l.take i)).map z0k++[z0k (its.length+1+z0Z (l.take i))]=(z3D (its.length+1) (l.take i)++[its.length+1+z0Z (l.take i)]).map z0k:=by rw [lBE];rfl
  rw [hmo2] at hko
  have th:=vh.kid (k:=its.length) (n:=its.length+1+z0Z (l.take i)) hkt hko hpres hlen1 hfr1
  rw [lBH]
  have tX:zPS aid iv X (V1.set ib (.cells ((z0d (all.map itA)).set (its.length*3+2) kv'))):=⟨fun j b h1 h2 h3=>by
   have hjx:=(lAA.1 h3).1
   exact z0K (hpres j b (fun k e=>by have:=wf2 j k e;omega) (vkX.1 j b h1 h2 h3)) (by omega),by simp;omega⟩
  have t3:(V1.set ib (.cells ((z0d (all.map itA)).set (its.length*3+2) kv')))[X.length]? =some (.cells [.int .i64 op,.str s,lst nl l]):=z0K (hpres _ _ (fun k e=>by have:=wf2 _ k e;omega) v3) (by omega)
  generalize V1.set ib (.cells ((z0d (all.map itA)).set (its.length*3+2) kv'))=T at *
  rw [hset] at th
  have hnum:z3D (its.length+1) (l.take i)++[its.length+1+z0Z (l.take i)]=z3D (its.length+1) (l.take (i+1)):=by rw [htk,zCv]
  have hcor:(new++new2).map IT.core=z4b (its.length+1) (l.take (i+1)):=by rw [htk,zBX,lBE,wc,vc]
  simp only [hnum] at th
  refine z6J ?_
  refine ⟨hc,rfl,_,kv',new++new2,th,hcor,t3,tX,fun j k e=>?_,fun j k e=>?_,fun t ht j k e=>?_⟩
  ·injection e with e
   omega
  ·have:=hfr1 j k e
   omega
  ·rcases lA5.1 ht with ht | ht
   ·exact wf3 t ht j k e
   ·have:=vf2 t ht j k e
    omega
termination_by e=>e.w
decreasing_by
 simp only [Ex.w];omega
def z2P (ks:List Nat):AV:=if ks.isEmpty then .nilslice else .list 1 (ks.map z0k)
theorem z8Q (ks:List Nat):Sl 1 (z2P ks) (ks.map z0k):=by
 unfold z2P
 cases ks with
 | nil=>exact .nil
 | cons a l=>exact .list _
def z6D (t:Int × Bt × List Nat):AV:=.agg [.int .i64 t.1,.str t.2.1,z2P t.2.2]
theorem zJu {l:List AV} {p i:Nat} {v d:AV} (hp:p<l.length):(l.set p v).getD i d=if p=i then v else l.getD i d:=by
 rw [lAB,lBF]
 split
 ·first | rfl | (rw [if_pos (by omega)];rfl)
 ·rw [lAB]
theorem zBc (l m:List AV):z0d (l++m)=z0d l++z0d m:=by simp [z0d]
theorem z9K {n lo:Nat} {m:AV} (hn:n≤lo):∀ (z0g:List IT) (dn:List AV) (X:z0B),(∀ x∈dn,x.cells.length=3)→(∀ t∈z0g,z1R lo X t.kv (t.ks.map z0k)) →
  z0g.Pairwise (fun a b=>∀ x k k',a.kv=.sl x 0 k 1→b.kv≠.sl x 0 k' 1) →
  ∃ K,SealsX n (.cptr [.list 3 (dn++z0g.map itA),m]) X (.cptr [.list 3 (dn++z0g.map fun t=>z6D t.core),m]) K∧(∀ (j:Nat) (b:Blk),j<lo→X[j]? =some b→K[j]? =some b)∧X.length≤K.length
 | [],dn,X,_,_,_=>⟨X,.done _ _,fun _ _ _ h=>h,lAL _⟩
 | t::ts,dn,X,hd,hk,hp=>by
  rw [List.pairwise_cons] at hp
  have h3:∀ x∈dn++[z6D t.core],x.cells.length=3:=fun x hx=>by
   rcases lA5.1 hx with hx | hx
   ·exact hd x hx
   ·simp only [lAR] at hx;subst hx;rfl
  have e2:dn++(t::ts).map (fun t=>z6D t.core)=(dn++[z6D t.core])++ts.map fun t=>z6D t.core:=by simp
  rcases hk t (by simp) with ⟨h1,h2⟩ | ⟨kb,h1,h2,h4,h5⟩
  ·have e1:dn++(t::ts).map itA=(dn++[z6D t.core])++ts.map itA:=by
    have hks:t.ks=[]:=by simpa using h1
    simp [z6D,IT.core,itA,h2,hks,z2P]
   obtain ⟨K,g1,g2,g3⟩:=z9K hn ts (dn++[z6D t.core]) X h3 (fun u hu=>hk u (lA4 _ hu)) hp.2
   exact ⟨K,by rw [e1,e2];exact g1,g2,g3⟩
  ·have hkb:=(lAA.1 h2).1
   obtain ⟨K,g1,g2,g3⟩:=z9K hn ts (dn++[z6D t.core]) (X.set kb .dead) h3 (fun u hu=>(hk u (lA4 _ hu)).mono' fun j k b e hj=>z0K hj fun e'=>by
    subst e'
    exact hp.1 u hu kb _ k h1 e) hp.2
   have hcore:z6D t.core=.agg [.int .i64 t.op,.str t.s,.list 1 (t.ks.map z0k)]:=by
    have:t.ks.isEmpty=false:=by
     cases hks:t.ks with
     | nil=>rw [hks] at h5;exact absurd rfl h5
     | cons a l=>rfl
    simp [z6D,IT.core,z2P,this]
   have hf1:z0d (dn++(t::ts).map itA)=z0d dn++([AV.int .i64 t.op,.str t.s,.sl kb 0 t.ks.length 1]++z0d (ts.map itA)):=by
    rw [zBc,lBA,z8p]
    show _++([AV.int .i64 t.op,.str t.s,t.kv]++_)=_
    rw [h1,lAD]
   have hf2:z0d ((dn++[z6D t.core])++ts.map itA)=(z0d dn++([AV.int .i64 t.op,.str t.s,.sl kb 0 t.ks.length 1]++z0d (ts.map itA))).set ((z0d dn).length+2) (.list 1 (t.ks.map z0k)):=by
    rw [zBc,zBc,hcore,lA6 _ _ (by omega),lA3]
    rw [show (z0d dn).length+2-(z0d dn).length=2 by omega]
    rfl
   refine ⟨K,?_,fun j b hj h=>g2 j b hj (z0K h (by omega)),by simpa using g3⟩
   rw [e2]
   refine .step kb _ (by omega) h2 (.cptr _ [.list 3 ((dn++[z6D t.core])++ts.map itA),m] rfl fun i=>?_) g1
   match i with
   | 0 =>
    refine .list 3 _ _ (by simp) (fun x hx=>?_) fun i=>?_
    ·rcases lA5.1 hx with hx | hx
     ·exact h3 x hx
     ·obtain ⟨u,_,rfl⟩:=lBB.1 hx
      rfl
    ·rw [hf1,hf2,zJu (by simp)]
     split
     ·rename_i e
      subst e
      rw [lAB,lAM (by omega),show (z0d dn).length+2-(z0d dn).length=2 by omega]
      exact .base _ _ (.sl 0 t.ks.length 1 (t.ks.map z0k) (by simp) (fun y hy=>by
       obtain ⟨q,_,rfl⟩:=lBB.1 hy;rfl) (by rw [z1J (fun y hy=>by
       obtain ⟨q,_,rfl⟩:=lBB.1 hy;rfl),lBP,lCB,lAQ (by simp)]) (by simp))
     ·exact .refl _
   | 1=>exact .refl _
   | i+2=>exact .refl _
theorem a74 (e:Ex) (hok:okE e) (hsz:e.size≤1000) (H:z0B):z0C PP 67 [enc e] H (zLn (fun v H'=>v=.cptr [.list 3 ((z5Q 0 e).map z6D),.map (H.length+1)]∧(∀ (j:Nat) (b:Blk),H[j]? =some b→H'[j]? =some b)∧H'[H.length+1]? =some (.map [] 0)∧H.length+2≤H'.length) (fun _ _=>False)):=by
 refine z0C.sealed (n:=H.length) ?_
 refine is67.c1 z0P mixed rfl ?_
 rw [lAJ]
 obtain ⟨op,s,nl,l⟩:=e
 have h133:=fun X h1 h2=>a133 (aid:=H.length+2) (mid:=H.length+1) (lo:=H.length+3) (.mk op s nl l) .nilslice [] X h1 h2 hok
 rw [z0e] at h133 ⊢
 refine z1E (z0V ?_)
 refine z0y (.agg [.int .i64 op,.str s,lst nl l]) rfl rfl ?_
 have x1:(H++[Blk.cells [.int .i64 op,.str s,lst nl l]])[H.length]? =some (.cells [.int .i64 op,.str s,lst nl l]):=z0E
 have xo:∀ (j:Nat) (b:Blk),H[j]? =some b→(H++[Blk.cells [.int .i64 op,.str s,lst nl l]])[j]? =some b:=fun j b h=>z0G h
 have xl:(H++[Blk.cells [.int .i64 op,.str s,lst nl l]]:z0B).length=H.length+1:=by simp
 show VV _ _ _ (H++[Blk.cells [.int .i64 op,.str s,lst nl l]]) _ _
 generalize (H++[Blk.cells [.int .i64 op,.str s,lst nl l]]:z0B)=X at *
 refine z0A ?_
 refine zCY ?_
 rw [xl]
 refine z0s (out:=[.nilslice,.map (H.length+1)]) rfl rfl ?_
 refine z0y (.agg [.nilslice,.map (H.length+1)]) rfl rfl ?_
 have yl:(X++[Blk.map [] 0]:z0B).length=H.length+2:=by simp [xl]
 have y2:(X++[Blk.map [] 0]++[.cells [.nilslice,.map (H.length+1)]])[H.length+2]? =some (.cells [.nilslice,.map (H.length+1)]):=by rw [←yl];exact z0E
 have y1:(X++[Blk.map [] 0]++[.cells [.nilslice,.map (H.length+1)]])[H.length+1]? =some (.map [] 0):=by
  refine z0G ?_
  rw [←xl];exact z0E
 have y0:=z0G (G:=[.cells [.nilslice,.map (H.length+1)]]) (z0G (G:=[Blk.map [] 0]) x1)
 have yo:∀ (j:Nat) (b:Blk),H[j]? =some b→(X++[Blk.map [] 0]++[.cells [.nilslice,.map (H.length+1)]])[j]? =some b:=fun j b h=>z0G (z0G (xo j b h))
 have yl3:(X++[Blk.map [] 0]++[.cells [.nilslice,.map (H.length+1)]]:z0B).length=H.length+3:=by simp [xl]
 rw [yl]
 show VV _ _ _ (X++[Blk.map [] 0]++[.cells [.nilslice,.map (H.length+1)]]) _ _
 generalize (X++[Blk.map [] 0]++[.cells [.nilslice,.map (H.length+1)]]:z0B)=Y at *
 have hy:AI (H.length+2) (H.length+1) (H.length+3) .nilslice [] Y:=⟨y2,z2h.nil,fun t ht=>(by cases ht),fun i j a b _ h=>(by simp at h),by omega,by omega⟩
 clear yl x1 xo xl X
 refine z0A ?_
 refine z0L rfl (h133 Y hy (by simp;omega)) ?_ ?_
 rotate_left
 ·rintro u V' ⟨hu,_⟩
  cases hu
 rintro u V ⟨hu,iv,new,vh,vc,vk,vf1,vf2⟩
 cases hu
 simp only [lDG,lC5] at vh vc
 refine z0A ?_
 have hnew:new≠[]:=by
  intro e
  rw [e] at vc
  simp only [z5Q] at vc
  cases vc
 obtain ⟨ib,rfl,hgib,hib⟩:∃ ib,iv=.sl ib 0 new.length 3∧V[ib]? =some (.cells (z0d (new.map itA)))∧H.length+3≤ib:=by
  rcases vh.gi.2 with ⟨e,_⟩ | ⟨ib,e,g,g2,_⟩
  ·exact absurd (by simpa using e) hnew
  ·exact ⟨ib,by rw [e,lAD],g,g2⟩
 have hga:=vh.ga
 have hgib2:=z0K (i:=H.length+2) (c:=.dead) hgib (by omega)
 have hki:∀ t∈new,z1R (H.length+3) ((V.set (H.length+2) .dead).set ib .dead) t.kv (t.ks.map z0k):=fun t ht=>by
  have hk:=vh.kids t ht
  have:=z6a vh.gi hk
  refine ((hk.mono (Y:=V.set (H.length+2) .dead) fun j b h1 h2=>z0K h2 (by omega)).mono' fun j k b e h=>z0K h fun e'=>?_)
  subst e'
  exact this ib k _ e rfl
 have hpw:new.Pairwise (fun a b=>∀ x k k',a.kv=.sl x 0 k 1→b.kv≠.sl x 0 k' 1):=by
  rw [lDN]
  intro i j hi hj hij
  exact vh.dis i j _ _ (by omega) (lAG hi) (lAG hj)
 obtain ⟨K,g1,g2,g3⟩:=z9K (n:=H.length) (m:=.map (H.length+1)) (by omega) new [] _ (fun x hx=>(by cases hx)) hki hpw
 simp only [lDG] at g1
 have e:new.map (fun t=>z6D t.core)=(z5Q 0 (.mk op s nl l)).map z6D:=by rw [←vc,lB0];rfl
 rw [e] at g1
 have kk:∀ (j:Nat) (b:Blk),j<H.length+2→Y[j]? =some b→K[j]? =some b:=fun j b hj h=>g2 j b (by omega) (z0K (z0K (vk.1 j b (by omega) (fun k e=>by cases e) h) (by omega)) (by omega))
 refine z0W rfl (.inl ⟨_,_,K,rfl,.step (H.length+2) _ (by omega) hga (.base _ _ (.ptr 0 (by simp))) (.step ib _ (by omega) hgib2 (.cptr _ [.list 3 (new.map itA),.map (H.length+1)] rfl fun i=>?_) g1),rfl,fun j b h=>kk j b (by have:=(lAA.1 h).1;omega) (yo j b h),kk _ _ (by omega) y1,?_⟩)
 ·match i with
  | 0=>exact .base _ _ (.sl 0 new.length 3 (new.map itA) (by simp) vh.gi.1 (by
    have:=z0t vh.gi.1
    rw [lAD] at this
    rw [lBP,←this,lAW]) (by rw [z0t vh.gi.1];simp))
  | 1=>exact .refl _
  | i+2=>exact .refl _
 ·have:=vk.2
  simp only [lCC] at g3
  omega
end Go.Ab
