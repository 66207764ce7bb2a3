/- Part 41 of the proof. -/
import Derived.Lib.ItoaNum
import Derived.Lib.Join
import Derived.Test.YtagcckioikbanaaGreatDoorM27
import Derived.Test.YtagcckioikbanaaGreatDoorM36
import Derived.Test.YtagcckioikbanaaGreatDoorM39
set_option linter.unusedVariables false
set_option linter.unusedSimpArgs false
namespace Go.Ab
open Go
set_option maxRecDepth 100000
set_option maxHeartbeats 8000000
def z3U (V:z3t→Prop) (mid:Nat) (H H':z0B):Prop:=∃ es c,V es∧Mod H mid (.map es c) H'
def z6f (V:z3t→Prop) (mid:Nat) (H:z0B) (b:Bool):z2U:=fun r H'=>r=.ret (.bool b)∧z3U V mid H H'
section askg
variable {V:z3t→Prop} {mid:Nat} {H H' H'':z0B}
theorem z3U.trans (h:z3U V mid H H') (k:z3U V mid H' H''):z3U V mid H H'':=by
 obtain ⟨_,_,_,m⟩:=h
 obtain ⟨es,c,v,m'⟩:=k
 exact ⟨es,c,v,m.trans m'⟩
theorem z3U.app (h:z3U V mid H H') (G:z0B):z3U V mid H (H'++G):=by
 obtain ⟨es,c,v,m⟩:=h
 exact ⟨es,c,v,m.app G⟩
theorem z3U.lt (h:z3U V mid H H'):mid<H'.length:=by
 obtain ⟨es,c,v,m⟩:=h
 exact m.lt
theorem z3U.own {id:Nat} {x:Blk} (h:z3U V mid H H') (h1:H.length≤id) (h2:id≠mid):z3U V mid H (H'.set id x):=by
 obtain ⟨es,c,v,m⟩:=h
 exact ⟨es,c,v,m.own h1 h2⟩
theorem z3U.old {id:Nat} {x:Blk} (h:z3U V mid H H') (h1:id≠mid) (h2:H[id]? =some x):H'[id]? =some x:=by
 obtain ⟨es,c,v,m⟩:=h
 exact m.old id x h1 h2
theorem z3U.len (h:z3U V mid H H'):H.length≤H'.length:=by
 obtain ⟨es,c,v,m⟩:=h
 exact m.len
theorem z3U.mod (h:z3U V mid H H'):∃ b,Mod H mid b H':=by
 obtain ⟨es,c,v,m⟩:=h
 exact ⟨_,m⟩
theorem z3U.self (h:z3U V mid H H'):z3U V mid H' H':=by
 obtain ⟨es,c,v,m⟩:=h
 exact ⟨es,c,v,Mod.refl m.get⟩
theorem z3U.pres {X Y:z0B} (h:z3U V mid H X) (hm:mid<H.length) (hp:∀ (j:Nat) (b:Blk),j<H.length→X[j]? =some b→Y[j]? =some b) (hl:X.length≤Y.length):z3U V mid H Y:=by
 obtain ⟨es,c,v,m⟩:=h
 exact ⟨es,c,v,hp _ _ hm m.get,fun id x hn hx=>hp _ _ (lAA.1 hx).1 (m.old id x hn hx),by have:=m.len;omega⟩
end askg
structure GS (t:Bt):Prop where
 ne:t≠[]
 sp:(32:UInt8)∉t
 le:t.length≤1000
def GW (w:List Bt):Prop:=∀ t∈w,GS t
theorem GW.drop {w:List Bt} (h:GW w) (i:Nat):GW (w.drop i):=fun t ht=>h t (lDG ht)
theorem GW.take {w:List Bt} (h:GW w) (i:Nat):GW (w.take i):=fun t ht=>h t (lCF ht)
theorem GW.sub {w:List Bt} (h:GW w) (i k:Nat):GW (sub w i k):=(h.drop i).take _
def zKb (k:Nat) (w:List Bt):Bt:=Lib.decDigits k++32::Lib.join w [32]
theorem zSG:∀ {a b r s:Bt},(32:UInt8)∉a→(32:UInt8)∉b→a++32::r=b++32::s→a=b∧r=s
 | [],[],r,s,_,_,h=>by
  simp only [lC0] at h
  injection h with _ h
  exact ⟨rfl,h⟩
 | [],y::b,r,s,_,hb,h=>by
  simp only [lC0,lB5] at h
  injection h with h _
  exact absurd (by rw [h];exact lB2) hb
 | x::a,[],r,s,ha,_,h=>by
  simp only [lC0,lB5] at h
  injection h with h _
  exact absurd (by rw [h];exact lB2) ha
 | x::a,y::b,r,s,ha,hb,h=>by
  simp only [lB5] at h
  injection h with h1 h2
  obtain ⟨e1,e2⟩:=zSG (fun m=>ha (lA8 _ m)) (fun m=>hb (lA8 _ m)) h2
  exact ⟨by rw [h1,e1],e2⟩
theorem zQf {a b r:Bt} (ha:(32:UInt8)∉a) (h:a=b++32::r):False:=by
 apply ha
 rw [h]
 simp
theorem z4t (x:Bt) (r:List Bt):Lib.joinTail [32] (x::r)=32::(x++Lib.joinTail [32] r):=by
 simp [Lib.joinTail]
theorem zHq:∀ {w v:List Bt},GW w→GW v→Lib.join w [32]=Lib.join v [32]→w=v
 | [],[],_,_,_=>rfl
 | [],y::v,_,hv,h=>by
  rw [Lib.join_nil,Lib.join_cons] at h
  have:=(hv y (by simp)).ne
  cases y with
  | nil=>exact absurd rfl this
  | cons a b=>simp at h
 | x::w,[],hw,_,h=>by
  rw [Lib.join_nil,Lib.join_cons] at h
  have:=(hw x (by simp)).ne
  cases x with
  | nil=>exact absurd rfl this
  | cons a b=>simp at h
 | [x],[y],hw,hv,h=>by
  rw [Lib.join_one,Lib.join_one] at h
  rw [h]
 | [x],y::z::v,hw,hv,h=>by
  rw [Lib.join_one,Lib.join_cons,z4t] at h
  exact (zQf (hw x (by simp)).sp h).elim
 | x::z::w,[y],hw,hv,h=>by
  rw [Lib.join_one,Lib.join_cons,z4t] at h
  exact (zQf (hv y (by simp)).sp h.symm).elim
 | x::z::w,y::u::v,hw,hv,h=>by
  rw [Lib.join_cons,Lib.join_cons,z4t,z4t] at h
  obtain ⟨e1,e2⟩:=zSG (hw x (by simp)).sp (hv y (by simp)).sp h
  have e3:Lib.join (z::w) [32]=Lib.join (u::v) [32]:=by rw [Lib.join_cons,Lib.join_cons];exact e2
  have:=zHq (fun t ht=>hw t (lA8 _ ht)) (fun t ht=>hv t (lA8 _ ht)) e3
  rw [e1,this]
def zSm (k:Nat):Bt:=if k<10 then [UInt8.ofNat (48+k)] else [UInt8.ofNat (48+k / 10),UInt8.ofNat (48+k % 10)]
theorem zGh {k:Nat} (hk:k<100):Lib.decDigits k=zSm k:=by
 unfold zSm
 rw [Lib.decDigits]
 by_cases h:k<10
 ·rw [dif_pos h,if_pos h]
 ·rw [dif_neg h,if_neg h,Lib.decDigits,dif_pos (by omega)];rfl
theorem zRg {k k':Nat} {w w':List Bt} (hk:k<100) (hk':k'<100) (hw:GW w) (hw':GW w') (h:zKb k w=zKb k' w'):k=k'∧w=w':=by
 have hd:∀ n:Fin 100,(32:UInt8)∉zSm n.val:=by decide
 have hi:∀ n m:Fin 100,zSm n.val=zSm m.val→n=m:=by decide +kernel
 unfold zKb at h
 rw [zGh hk,zGh hk'] at h
 obtain ⟨e1,e2⟩:=zSG (hd ⟨k,hk⟩) (hd ⟨k',hk'⟩) h
 have:=hi ⟨k,hk⟩ ⟨k',hk'⟩ e1
 injection this with this
 exact ⟨this,zHq hw hw' e2⟩
def z1M (D:Nat→List Bt→Bool) (es:z3t):Prop:=∀ e∈es,∃ (k:Nat) (w:List Bt) (t:Nat),k<100∧GW w∧e=(.str (zKb k w),.bool (D k w),t)
abbrev KS:KT:=⟨false,[.str]⟩
theorem keyS (a b:Bt):z5Y KS (.str a) (.str b)=some (a==b):=rfl
theorem zNP {D:Nat→List Bt→Bool} {k:Nat} {w:List Bt} (hk:k<100) (hw:GW w):∀ {es:z3t} (i:Nat),z1M D es→∃ r,z3B KS (.str (zKb k w)) es i=some r∧∀ j,r=some j→i≤j∧(es.getD (j-i) (.top,.top,0)).2.1=.bool (D k w)
 | [],i,h=>⟨none,rfl,fun j e=>by cases e⟩
 | e::es,i,h=>by
  obtain ⟨k',w',t,hk',hw',rfl⟩:=h e (by simp)
  obtain ⟨r,h1,h2⟩:=zNP (k:=k) (w:=w) hk hw (i+1) (fun x hx=>h x (lA8 _ hx))
  have hq:=keyS (zKb k w) (zKb k' w')
  cases hb:(zKb k w==zKb k' w')
  ·rw [hb] at hq
   refine ⟨r,by simp only [z3B,hq];exact h1,fun j hj=>?_⟩
   obtain ⟨a,b⟩:=h2 j hj
   have:j-i=(j-(i+1))+1:=by omega
   refine ⟨by omega,?_⟩
   rw [this,List.getD_cons_succ];exact b
  ·rw [hb] at hq
   obtain ⟨rfl,rfl⟩:=zRg hk hk' hw hw' (lCY.1 hb)
   refine ⟨some i,by simp only [z3B,hq],fun j hj=>?_⟩
   injection hj with hj;subst hj
   exact ⟨lAL _,by simp⟩
theorem z1M.upd {D:Nat→List Bt→Bool} {es:z3t} {c k:Nat} {w:List Bt} {r:Option Nat} (hk:k<100) (hw:GW w) (h:z1M D es):∃ es' c',zXY es c (.str (zKb k w)) (.bool (D k w)) r=.map es' c'∧z1M D es':=by
 cases r with
 | none =>
  refine ⟨_,_,rfl,fun e he=>?_⟩
  rcases lBF.1 he with he | he
  ·exact h e he
  ·simp only [lA1] at he
   subst he;exact ⟨k,w,c,hk,hw,rfl⟩
 | some i =>
  refine ⟨_,_,rfl,fun e he=>?_⟩
  simp only [z7f] at he
  obtain ⟨j,hj,rfl⟩:=lBR.1 he
  rw [List.getElem_modify]
  simp only [List.length_modify] at hj
  split
  ·exact ⟨k,w,_,hk,hw,rfl⟩
  ·exact h _ (lBT hj)
theorem z8u {P:Program} {H:z0B} {al:AL} {K:KL} {Qp:AL→AV→z0B→Prop} {os:List IOper} {d:Nat} {x:Arg} {as_:List Arg} {sz:Nat} {lo:Bool} {wv:AV} {xs:List AV} {bs:List AV} {a b:Nat}
  (hx:evL al x=wv) (hs:Sl sz wv xs) (ha:z0u al as_=bs) (hb:z4T xs.length lo bs=some (a,b)) (h:∀ v,Sl sz v ((xs.drop a).take (b-a))→VV P os ((d,v)::al) H K Qp) :
  VV P (⟨some d,.i (.d (.sliceSl3 sz lo)),x::as_,none,none⟩::os) al H K Qp:=by
 have hd:z1W (.sliceSl3 sz lo) (z0u al (x::as_))=z8n sz lo wv bs:=by
  simp only [z0u,hx,ha];rfl
 cases hs with
 | nil =>
  refine z2S (v:=.nilslice) ?_ (h _ (by simpa using Sl.nil))
  rw [hd]
  have:z4T 0 lo bs=some (a,b):=hb
  simp only [z8n,this]
 | list =>
  refine z2S (v:=.list sz ((xs.drop a).take (b-a))) ?_ (h _ (.list _))
  rw [hd]
  simp only [z8n,if_true,hb]
theorem zPP {φ:Phi} {σ:Sig} {a:AV} {cargs:Array Value} (h:z8N φ σ [a] cargs):∃ x,cargs = #[x]∧VRel φ σ a x:=by
 obtain ⟨hl,hr⟩:=h
 obtain ⟨l⟩:=cargs
 match l,hl with
 | [x],_=>exact ⟨x,rfl,by simpa using hr 0⟩
theorem a265 {k:Nat} (hk:k<100) (H:z0B):z0D PP 226 [.int .i64 k] H (z1A H (.str (Lib.decDigits k))):=by
 refine z5A fun φ σ cargs w hr hc=>?_
 obtain ⟨x,rfl,hx⟩:=zPP hc
 cases hx
 refine (Proofs.Tryz.strconv_Itoa_small k hk w).mono ?_
 rintro e w' ⟨rfl,rfl⟩
 exact ⟨⟨_,rfl,.str _ _ (by simp)⟩,rfl⟩
def z8P (D:Nat→List Bt→Bool) (mid:Nat) (av:AV) (k:Nat) (f:List Bt→Bool):Prop :=
 ∀ (H:z0B) (wv:AV) (w:List Bt),Sl 1 wv (w.map .str)→GW w→w.length≤1000000→z3U (z1M D) mid H H→z0D PP 211 [av,.int .i64 k,wv] H (z6f (z1M D) mid H (f w))
theorem zHp:∀ {w:List Bt},GW w→(Lib.join w [32]).length≤1001*w.length
 | [],_=>by simp [Lib.join_nil]
 | [x],h=>by
  rw [Lib.join_one]
  have:=(h x (by simp)).le
  simp;omega
 | x::y::w,h=>by
  rw [Lib.join_cons,z4t]
  have h1:=(h x (by simp)).le
  have ih:=zHp (w:=y::w) fun t ht=>h t (lA8 _ ht)
  rw [Lib.join_cons] at ih
  simp only [lAH,lBE] at ih ⊢
  omega
theorem zSw {H:z0B} {v:AV} {w:List Bt} (h:Sl 1 v (w.map .str)):∃ n,z1m 1 H v=some (n,w.map .str):=by
 generalize hx:w.map AV.str=xs at h
 cases h with
 | nil=>exact ⟨0,rfl⟩
 | list=>subst hx;exact ⟨_,zJY w⟩
theorem zSF {k:Nat} (hk:k<100):(Lib.decDigits k).length≤2:=by
 rw [zGh hk]
 unfold zSm
 split<;>simp
theorem a248 {D:Nat→List Bt→Bool} {mid k:Nat} {op:Int} {s:Bt} {iv kv:AV} {items:List AV} (hiv:Sl 3 iv items) (hit:items[k]? =some (.agg [.int .i64 op,.str s,kv])) (hk:k<100)
  (hfind:∀ (H:z0B) (wv:AV) (w:List Bt),Sl 1 wv (w.map .str)→GW w→w.length≤1000000→z3U (z1M D) mid H H→z0D PP 227 [.cptr [iv,.map mid],.agg [.int .i64 op,.str s,kv],wv] H (z6f (z1M D) mid H (D k w))) :
  z8P D mid (.cptr [iv,.map mid]) k (D k):=by
 intro H wv w hw hg hl ha
 refine zTk.c3 z0R mixed rfl ?_
 rw [lAK]
 have hml:=ha.lt
 have k265:=a265 hk
 obtain ⟨n,hsrc⟩:=zSw (H:=H) hw
 have hjl:=zHp hg
 have kj:=zFB (sep:=[32]) hsrc (by omega) (by omega)
 have hdl:=zSF hk
 refine z0A ?_
 refine z0H rfl (k265 _) ?_
 refine z0A ?_
 refine z0H rfl kj ?_
 refine zCh (a:=Lib.decDigits k++[32]) (b:=Lib.join w [32]) rfl rfl (by rw [lAH,lB7];omega) ?_
 have hkey:Lib.decDigits k++[32]++Lib.join w [32]=zKb k w:=by simp [zKb]
 rw [hkey]
 obtain ⟨es,c,hv,hm⟩:=ha
 have m1:=hm.get
 have ha:z3U (z1M D) mid H H:=⟨es,c,hv,hm⟩
 obtain ⟨r,hf,hr⟩:=zNP (D:=D) (k:=k) (w:=w) hk hg 0 hv
 obtain ⟨is,fnd,hfo,hfd⟩:∃ is fnd,zBN (.bool false) true (r.map fun i=>(es.getD i (.top,.top,0)).2.1)=.tuple [.bool is,.bool fnd]∧(fnd=true→is=D k w):=by
  cases r with
  | none=>exact ⟨false,false,rfl,fun e=>by cases e⟩
  | some i =>
   have:=(hr i rfl).2
   rw [lEA] at this
   exact ⟨D k w,true,by simp only [lBH,zBN,this];rfl,fun _=>rfl⟩
 generalize hK:zKb k w=key at *
 refine z0A ?_
 refine zHJ (es:=es) (c:=c) (r:=r) rfl rfl m1 rfl hf hfo ?_
 refine z0A ?_
 cases fnd
 ·refine z0A ?_
  refine z0L rfl (hfind H wv w hw hg hl ha) ?_ ?_
  rotate_left
  ·rintro u V' ⟨hu,_⟩
   cases hu
  rintro u Y ⟨hu,hin⟩
  cases hu
  clear m1 hv hm hf hr hfo hfd r
  obtain ⟨es2,c2,hv,hm⟩:=hin
  have m1:=hm.get
  obtain ⟨r,hf,hr⟩:=zNP (D:=D) (k:=k) (w:=w) hk hg 0 hv
  obtain ⟨es',c',hu,hv'⟩:=hv.upd (c:=c2) (k:=k) (w:=w) (r:=r) hk hg
  rw [hK] at hf hu
  refine z0A ?_
  refine zLA (key:=.str key) (v:=.bool (D k w)) (es:=es2) (c:=c2) (r:=r) rfl rfl rfl m1 rfl hf ?_
  rw [hu]
  refine z0A ?_
  exact z0Y rfl ⟨rfl,es',c',hv',hm.put⟩
 ·refine z0A ?_
  exact z0Y rfl ⟨by rw [←hfd rfl];rfl,ha⟩
theorem zSn {n i k:Nat} (h1:i≤k) (h2:k≤n):z4T n true [.int .i64 i,.int .i64 k,.int .i64 k]=some (i,k):=by
 simp only [z4T]
 rw [if_pos ⟨by omega,by omega,by omega,by omega,trivial⟩]
 simp
theorem b3_f {n k:Nat} (h2:k≤n):z4T n false [.int .i64 k,.int .i64 k]=some (0,k):=by
 simp only [z4T]
 rw [if_pos ⟨by omega,by omega,trivial⟩]
 simp
section
variable {D:Nat→List Bt→Bool} {mid k:Nat} {av wv:AV} {f:List Bt→Bool} {w:List Bt} {H:z0B}
theorem z5m {v:AV} {i j:Nat} (h:Sl 1 v (((w.map AV.str).drop i).take (j-i))):Sl 1 v ((sub w i j).map .str):=by
 unfold sub
 rw [lDZ,lDY];exact h
theorem z9y (w:List Bt) (i j:Nat):(sub w i j).length≤w.length:=by unfold sub;simp;omega
theorem a205 (hf:z8P D mid av k f) (hs:Sl 1 wv (w.map .str)) (hg:GW w) (hw:w.length≤1000000) (ha:z3U (z1M D) mid H H):z0D PP 178 [av,.int .i64 k,wv] H (z6f (z1M D) mid H (z2u f w)):=by
 refine zTz.c3 z0R mixed rfl ?_
 rw [lAK]
 have hlw:(w.map AV.str).length=w.length:=lAE _
 unfold z2u
 refine z0A ?_
 refine z0F (w.length+1) (fun i al H'=>al=[(0,av),(1,.int .i64 k),(2,wv),(7,.int .i64 i)]∧z3U (z1M D) mid H H'∧(List.range i).any (fun i=>f (w.drop i))=false) ⟨rfl,ha,rfl⟩ ?_
 rintro i _ V hi ⟨rfl,vi,v1⟩
 have e1:decide ((i:Int)≤((w.map AV.str).length:Int))=decide (i<w.length+1):=by rw [hlw];simp only [lAP];omega
 refine z0A ?_
 rw [e1]
 cases hc:decide (i<w.length+1)
 ·simp only [lAC] at hc
  obtain rfl:i=w.length+1:=by omega
  refine z0A ?_
  exact z0Y rfl ⟨by rw [v1];rfl,vi⟩
 ·simp only [lAD] at hc
  refine z0A ?_
  refine z8u (a:=i) (b:=w.length) rfl hs rfl (by rw [hlw];exact zSn (by omega) (lAL _)) ?_
  intro pv hpv
  have hpv:=z5m hpv
  have hdr:sub w i w.length=w.drop i:=z9t w i
  rw [hdr] at hpv
  refine z0L rfl (hf V pv (w.drop i) hpv (hg.drop i) (by simp;omega) vi.self) ?_ ?_
  ·rintro u V' ⟨hu,hin⟩
   cases hu
   have vi2:=vi.trans hin
   cases hb:f (w.drop i)
   ·refine z0A ?_
    exact ⟨by omega,rfl,vi2,z3F v1 hb⟩
   ·refine z0A ?_
    exact z0Y rfl ⟨by rw [z4U (i:=i) hc hb];rfl,vi2⟩
  ·rintro u V' ⟨hu,_⟩
   cases hu
theorem a206 (hf:z8P D mid av k f) (hs:Sl 1 wv (w.map .str)) (hg:GW w) (hw:w.length≤1000000) (ha:z3U (z1M D) mid H H):z0D PP 179 [av,.int .i64 k,wv] H (z6f (z1M D) mid H (z0g f w)):=by
 refine zTy.c3 z0R mixed rfl ?_
 rw [lAK]
 have hlw:(w.map AV.str).length=w.length:=lAE _
 unfold z0g
 refine z0A ?_
 refine z0F (w.length+1) (fun i al H'=>al=[(0,av),(1,.int .i64 k),(2,wv),(7,.int .i64 i)]∧z3U (z1M D) mid H H'∧(List.range i).any (fun i=>f (w.take i))=false) ⟨rfl,ha,rfl⟩ ?_
 rintro i _ V hi ⟨rfl,vi,v1⟩
 have e1:decide ((i:Int)≤((w.map AV.str).length:Int))=decide (i<w.length+1):=by rw [hlw];simp only [lAP];omega
 refine z0A ?_
 rw [e1]
 cases hc:decide (i<w.length+1)
 ·simp only [lAC] at hc
  obtain rfl:i=w.length+1:=by omega
  refine z0A ?_
  exact z0Y rfl ⟨by rw [v1];rfl,vi⟩
 ·simp only [lAD] at hc
  refine z0A ?_
  refine z8u (a:=0) (b:=i) rfl hs rfl (by rw [hlw];exact b3_f (by omega)) ?_
  intro pv hpv
  have hpv:=z5m hpv
  have hdr:sub w 0 i=w.take i:=by unfold sub;simp
  rw [hdr] at hpv
  refine z0L rfl (hf V pv (w.take i) hpv (hg.take i) (by simp;omega) vi.self) ?_ ?_
  ·rintro u V' ⟨hu,hin⟩
   cases hu
   have vi2:=vi.trans hin
   cases hb:f (w.take i)
   ·refine z0A ?_
    exact ⟨by omega,rfl,vi2,z3F v1 hb⟩
   ·refine z0A ?_
    exact z0Y rfl ⟨by rw [z4U (i:=i) hc hb];rfl,vi2⟩
  ·rintro u V' ⟨hu,_⟩
   cases hu
def atD (f:List Bt→Bool) (w:List Bt) (i:Nat):Bool:=(List.range (w.length+1)).any fun k=>decide (i≤k)&&f (sub w i k)
theorem zCU {i:Nat} (hi:i≤w.length):atD f w i=z0g f (w.drop i):=by
 unfold atD z0g
 have h1:∀ k,i≤k→sub w i k=(w.drop i).take (k-i):=fun k _=>rfl
 rw [lB6,lA3,lA3]
 constructor
 ·rintro ⟨k,hk,h⟩
  rw [lAQ,lAD] at h
  have:=lAZ.1 hk
  refine ⟨k-i,lAZ.2 (by simp;omega),h.2⟩
 ·rintro ⟨k,hk,h⟩
  have:=lAZ.1 hk
  rw [lC3] at this
  refine ⟨i+k,lAZ.2 (by omega),?_⟩
  rw [lAQ,lAD]
  refine ⟨by omega,?_⟩
  show f ((w.drop i).take (i+k-i))=true
  rw [lC4];exact h
theorem a287 (hf:z8P D mid av k f) (hs:Sl 1 wv (w.map .str)) (hg:GW w) (hw:w.length≤1000000) (ha:z3U (z1M D) mid H H):z0D PP 246 [av,.int .i64 k,wv] H (z6f (z1M D) mid H (zNX f w)):=by
 refine zTe.c3 z0R mixed rfl ?_
 rw [lAK]
 have hlw:(w.map AV.str).length=w.length:=lAE _
 have hhas:zNX f w=(List.range (w.length+1)).any (atD f w):=by
  unfold zNX
  rw [lB6,lA3,lA3]
  constructor
  ·rintro ⟨i,hi,h⟩
   exact ⟨i,hi,by rw [zCU (by have:=lAZ.1 hi;omega)];exact h⟩
  ·rintro ⟨i,hi,h⟩
   exact ⟨i,hi,by rw [←zCU (by have:=lAZ.1 hi;omega)];exact h⟩
 rw [hhas]
 refine z0A ?_
 refine z0F (w.length+1) (fun i al H'=>al=[(0,av),(1,.int .i64 k),(2,wv),(7,.int .i64 i)]∧z3U (z1M D) mid H H'∧(List.range i).any (atD f w)=false) ⟨rfl,ha,rfl⟩ ?_
 rintro i _ V hi ⟨rfl,vi,v1⟩
 have e1:decide ((i:Int)≤((w.map AV.str).length:Int))=decide (i<w.length+1):=by rw [hlw];simp only [lAP];omega
 refine z0A ?_
 rw [e1]
 cases hc:decide (i<w.length+1)
 ·simp only [lAC] at hc
  obtain rfl:i=w.length+1:=by omega
  refine z0A ?_
  exact z0Y rfl ⟨by rw [v1];rfl,vi⟩
 simp only [lAD] at hc
 refine z0A ?_
 refine z0F (w.length+1) (fun j al H'=>al=[(0,av),(1,.int .i64 k),(2,wv),(7,.int .i64 i),(8,.int .i64 (i+j:Nat))]∧z3U (z1M D) mid H H'∧(List.range (i+j)).any (fun k=>decide (i≤k)&&f (sub w i k))=false) ⟨rfl,vi,by
  rw [lBV]
  intro q hq
  have:=lAZ.1 hq
  have:¬ i≤q:=by omega
  simp [this]⟩ ?_
 clear vi V
 rintro j _ V hj ⟨rfl,vi,v2⟩
 have e2:decide (((i+j:Nat):Int)≤((w.map AV.str).length:Int))=decide (i+j<w.length+1):=by rw [hlw];simp only [lAP];omega
 refine z0A ?_
 rw [e2]
 cases hc2:decide (i+j<w.length+1)
 ·simp only [lAC] at hc2
  have hno:atD f w i=false:=by
   unfold atD
   rw [lBV] at v2 ⊢
   intro q hq
   exact v2 q (lAZ.2 (by have:=lAZ.1 hq;omega))
  refine z0A ?_
  exact ⟨by omega,rfl,vi,z3F v1 hno⟩
 simp only [lAD] at hc2
 refine z0A ?_
 refine z8u (a:=i) (b:=i+j) rfl hs rfl (by rw [hlw];exact zSn (by omega) (by omega)) ?_
 intro pv hpv
 have hpv:=z5m hpv
 refine z0L rfl (hf V pv (sub w i (i+j)) hpv (hg.sub _ _) (lBM (z9y _ _ _) hw) vi.self) ?_ ?_
 ·rintro u V' ⟨hu,hin⟩
  cases hu
  have vi2:=vi.trans hin
  cases hb:f (sub w i (i+j))
  ·refine z0A ?_
   exact ⟨by omega,rfl,vi2,z3F v2 (by simp [hb])⟩
  ·refine z0A ?_
   exact z0Y rfl ⟨by rw [z4U (i:=i) hc (by unfold atD;exact z4U (i:=i+j) hc2 (by simp [hb]))];rfl,vi2⟩
 ·rintro u V' ⟨hu,_⟩
  cases hu
end
section vzq
variable {P:Program} {H:z0B} {al:AL} {Q:PL} {K:KL} {I:List Nat} {O:AV→Prop} {base:Nat} {ios:List IOper} {B:List (List Nat)} {Gp:AV→Prop} {s r:Sched}
theorem vz_q {i:Nat} {o:IOper} (ho:ios[i]? =some o) (hq:z0v o=true) (hr:∀ v n x,z0f o al H=some (v,some (n,x))→O x)
  (h:VV P [o] al H (fun al' _=>VZ P (i::I) O base ios B K Gp s al' H) (fun _ _ _=>False)):VZ P I O base ios B K Gp (.quiet i s) al H:=by
 refine ⟨fun S hS=>?_⟩
 obtain ⟨v,rd,h1,h2⟩:=z3e (K:=fun al' _=>VZ P (i::I) O base ios B K Gp s al' H) hq h.1
 simp only [vsL,ho,h1]
 refine h2.1 _ fun r hr'=>?_
 cases rd with
 | none=>exact ⟨lA8 _ (hS r hr').1,(hS r hr').2⟩
 | some q =>
  obtain ⟨n,u⟩:=q
  rcases lAT.1 hr' with rfl | hr'
  ·exact ⟨lB2,hr _ _ _ h1,z7m h1⟩
  ·exact ⟨lA8 _ (hS r hr').1,(hS r hr').2⟩
theorem zXk {i g d:Nat} {b want:Bool} {op:AOp} {as_:List Arg} (ho:ios[i]? =some ⟨some d,op,as_,some (g,want),none⟩) (hb:base≤H.length) (hg:z2V al g=.bool b) (hw:(b==want)=false)
  (h:VZ P I O base ios B K Gp s ((d,.tuple [])::al) H):VZ P I O base ios B K Gp (.branch i s .stop) al H :=
 zDm ho rfl hb (zNt hg hw (z1b (fun _ _ _ _ q=>q) h))
theorem zNb {i d m g:Nat} {want:Bool} {f:FuncId} {as_:List Arg} {args:List AV} {R:z2U} (ho:ios[i]? =some ⟨some d,.callF f,as_,some (g,want),none⟩) (hb:base≤H.length) (hg:z2V al g=.bool want) (ha:z0u al as_=args) (hc:z0D P f args H R)
  (h:∀ v H',R (.ret v) H'→(∃ b,Mod H m b H')∧VZ P I (z2h [m]) base ios B K Gp s ((d,v)::al) H') (hp:∀ v H',R (.panic v) H'→Gp v):VZ P I (z2h [m]) base ios B K Gp (.branch i s .stop) al H:=by
 refine zDm ho rfl hb (z5h hg (z0L ha hc (fun v H' q=>?_) (fun v H' q=>hp v H' q)))
 obtain ⟨⟨b,hm⟩,h2⟩:=h v H' q
 exact z1b (z5n hm) h2
end vzq
theorem z5e {g n:Prop} (k:n) (h:Hide n→g:=by (intro k);(repeat (first | ((with_reducible apply z7c);focus (first | exact z2k | (apply z2j;(repeat (first | exact z0S | (apply z0P;focus exact rfl) | exact lk_nil))))) | ((with_reducible apply zLF);exact rfl) | ((with_reducible apply st_iface);exact rfl) | ((with_reducible apply zAA);exact rfl;exact rfl;(focus omega)) | ((with_reducible apply zFv);exact rfl;exact rfl;(focus omega)) | ((with_reducible apply zAG)) | ((with_reducible apply zAB);exact rfl;(focus assumption)) | ((with_reducible apply st_mkfB);exact rfl) | ((with_reducible apply zLE);exact rfl) | ((with_reducible apply zCh);exact rfl;exact rfl;(focus ((try simp only [lAH,lBE,lDW]);omega))) | ((with_reducible apply z8W);(focus (first | exact z2k | (apply z2j;(repeat (first | exact z0S | (apply z0P;focus exact rfl) | exact lk_nil)))));(focus assumption);exact rfl;(focus assumption)) | ((with_reducible apply z8V);(focus (first | exact z2k | (apply z2j;(repeat (first | exact z0S | (apply z0P;focus exact rfl) | exact lk_nil)))));(focus assumption);exact rfl;(focus assumption)) | ((with_reducible apply z4c);exact rfl;exact rfl) | ((with_reducible apply z4d);exact rfl) | ((with_reducible apply zBd);exact rfl;exact rfl) | ((with_reducible apply zBn);exact rfl;exact rfl) | ((with_reducible apply st_field);exact rfl;exact rfl) | ((with_reducible apply z3b);exact rfl;exact rfl) | ((with_reducible apply zBj);exact rfl;exact rfl) | ((with_reducible apply zBe);exact rfl;exact rfl) | ((with_reducible apply zBk);exact rfl;exact rfl) | ((with_reducible apply zBb);exact rfl;exact rfl) | ((with_reducible apply zBm);exact rfl;exact rfl) | ((with_reducible apply zBa);exact rfl;exact rfl) | ((with_reducible apply zBc);exact rfl;exact rfl) | ((with_reducible apply zBh);exact rfl;exact rfl) | ((with_reducible apply zBY);exact rfl) | ((with_reducible apply z4g);exact rfl;exact rfl) | ((with_reducible apply z2J);exact rfl;exact rfl) | ((with_reducible apply zBf);(focus (first | exact z2k | (apply z2j;(repeat (first | exact z0S | (apply z0P;focus exact rfl) | exact lk_nil)))));(focus assumption)) | ((with_reducible apply z8v);(focus (first | exact z2k | (apply z2j;(repeat (first | exact z0S | (apply z0P;focus exact rfl) | exact lk_nil)))));(focus assumption);exact rfl;(focus assumption)) | ((with_reducible apply z4e);exact rfl;exact rfl;(focus assumption)) | ((with_reducible apply z1k);exact rfl;exact rfl;exact rfl;exact rfl;exact rfl;(focus (first | exact rfl | exact z7R));exact rfl) | ((with_reducible apply z4b);exact rfl;exact rfl;exact rfl) | ((with_reducible apply z6L);exact rfl;(focus (first | assumption | exact z0G (by assumption)));exact rfl) | ((with_reducible apply z5F);exact rfl;exact rfl) | ((with_reducible apply z3H);exact rfl;(focus (first | exact z2k | (apply z2j;(repeat (first | exact z0S | (apply z0P;focus exact rfl) | exact lk_nil)))));exact rfl;exact rfl;exact rfl;exact rfl) | ((with_reducible apply z5E);exact rfl;exact rfl;exact rfl) | ((with_reducible apply z2a);exact rfl;(focus (first | assumption | exact z0G (by assumption)));exact rfl) | ((with_reducible apply zAD);(focus (first | exact z2k | (apply z2j;(repeat (first | exact z0S | (apply z0P;focus exact rfl) | exact lk_nil)))));exact rfl;exact rfl;exact rfl) | ((with_reducible apply z4f);exact rfl) | ((with_reducible apply z6M);exact rfl) | ((with_reducible apply z3C);exact rfl;exact rfl;(focus (first | decide | omega))) | ((with_reducible apply zBg);exact rfl;(focus omega)) | ((with_reducible apply zAC);focus (repeat (first | exact z5u | ((with_reducible apply kp);focus (repeat (first | exact z0S | (apply z0P;focus exact rfl) | exact lk_nil)))))) | ((with_reducible apply z7a);(focus (first | exact rfl | exact congrArg AV.bool (by assumption)));(focus (first | exact z2k | (apply z2j;(repeat (first | exact z0S | (apply z0P;focus exact rfl) | exact lk_nil)))))) | ((with_reducible apply z7b);(focus (first | exact rfl | exact congrArg AV.bool (by assumption)));(focus (first | exact z2k | (apply z2j;(repeat (first | exact z0S | (apply z0P;focus exact rfl) | exact lk_nil)))))) | ((with_reducible apply z5h);(focus (first | exact rfl | exact congrArg AV.bool (by assumption)))) | ((with_reducible apply zDw);(focus (first | exact rfl | exact congrArg AV.bool (by assumption)))) | ((with_reducible apply zDx);(focus (first | exact rfl | exact congrArg AV.bool (by assumption)))) | ((with_reducible apply zBZ);exact rfl) | (with_reducible apply z6x) | ((with_reducible apply vx_q);exact rfl;exact rfl;(focus (first | exact zWz | exact zRy | (apply zWy;focus (apply zEg;(focus (first | exact z2k | (apply z2j;(repeat (first | exact z0S | (apply z0P;focus exact rfl) | exact lk_nil)))));(focus (first | exact trivial | exact z4C (by omega) | exact z2d (by simp))))) | (apply zRx;focus (apply zEg;(focus (first | exact z2k | (apply z2j;(repeat (first | exact z0S | (apply z0P;focus exact rfl) | exact lk_nil)))));(focus (first | exact trivial | exact z4C (by omega) | exact z2d (by simp)))))))) | ((with_reducible apply zKr);focus (repeat (first | exact z5u | ((with_reducible apply kp);focus (repeat (first | exact z0S | (apply z0P;focus exact rfl) | exact lk_nil)))))) | (with_reducible apply zCe) | ((with_reducible apply vz_q);exact rfl;exact rfl;(focus (first | exact zWz | exact zRy | (apply zWy;focus (apply zEg;(focus (first | exact z2k | (apply z2j;(repeat (first | exact z0S | (apply z0P;focus exact rfl) | exact lk_nil)))));(focus (first | exact trivial | exact z4C (by omega) | exact z2d (by simp))))) | (apply zRx;focus (apply zEg;(focus (first | exact z2k | (apply z2j;(repeat (first | exact z0S | (apply z0P;focus exact rfl) | exact lk_nil)))));(focus (first | exact trivial | exact z4C (by omega) | exact z2d (by simp)))))))) | ((with_reducible apply vz_d);exact rfl;exact rfl) | ((with_reducible apply vz_l);exact rfl;exact rfl;(focus (apply zEg;(focus (first | exact z2k | (apply z2j;(repeat (first | exact z0S | (apply z0P;focus exact rfl) | exact lk_nil)))));(focus (first | exact trivial | exact z4C (by omega) | exact z2d (by simp)))))) | with_reducible refine z1e ?_ | with_reducible refine z0c ?_ | with_reducible refine zHb ?_ | with_reducible refine z7J ?_ | with_reducible refine z7z ?_ | with_reducible refine zFD ?_ | with_reducible refine zAf ?_ | with_reducible refine zTH ?_ | with_reducible refine zTJ ?_ | with_reducible refine zXR ?_ | with_reducible refine zXQ ?_ | with_reducible refine zXP ?_ | with_reducible refine bk_y rfl ?_ | ((with_reducible apply zFC);(focus (first | exact rfl | exact congrArg AV.bool (by assumption)))) | ((with_reducible apply zGX);(focus (first | exact rfl | exact congrArg AV.bool (by assumption)))) | refine z1e ?_ | refine z9a rfl rfl ?_));(exact k.h)):g:=h ⟨k⟩
section
variable {D:Nat→List Bt→Bool} {mid k:Nat} {av wv:AV} {f:List Bt→Bool} {w:List Bt} {H:z0B}
theorem a286 (hf:z8P D mid av k f) (hs:Sl 1 wv (w.map .str)) (hg:GW w) (hw:w.length≤1000000) (ha:z3U (z1M D) mid H H):z0D PP 245 [av,.int .i64 k,wv] H (z6f (z1M D) mid H (z4K f w)):=by
 refine zTf.c3 z0R mixed rfl ?_
 rw [lAK]
 have hml:=ha.lt
 have hlw:(w.map AV.str).length=w.length:=lAE _
 refine z0A ?_
 rw [hlw]
 refine z8U rfl (by omega) ?_
 have x1:(H++[BL (List.replicate (w.length+1) false)])[H.length]? =some (BL (List.replicate (w.length+1) false)):=z0K
 have xi:=ha.app [BL (List.replicate (w.length+1) false)]
 generalize (H++[BL (List.replicate (w.length+1) false)]:z0B)=X at *
 refine z0A ?_
 refine z3C (i:=0) rfl rfl (by omega) ?_
 refine z3R rfl rfl x1 (by simp) ?_
 have hxl:=xi.len
 have hx1:=(lAA.1 x1).1
 have y1:(X.set H.length (BL ((List.replicate (w.length+1) false).set 0 true)))[H.length]? =some (BL (z3Q f w 0)):=by
  rw [lAU hx1];rfl
 have yi:=xi.own (id:=H.length) (x:=BL ((List.replicate (w.length+1) false).set 0 true)) (by omega) (by omega)
 generalize (X.set H.length (BL ((List.replicate (w.length+1) false).set 0 true)))=Y at *
 have hnl:H.length≠mid:=by omega
 clear x1 xi hx1 hxl X
 refine z0A ?_
 refine z0F w.length (fun i al H'=>al=[(0,av),(1,.int .i64 k),(2,wv),(7,.sl H.length 0 (w.length+1) 1),(8,.int .i64 i)]∧z3U (z1M D) mid H H'∧H'[H.length]? =some (BL (z3Q f w i))) ⟨rfl,yi,y1⟩ ?_
 clear y1 yi Y
 rintro i _ V hi ⟨rfl,vi,v1⟩
 have e1:decide ((i:Int)<((w.map AV.str).length:Int))=decide (i<w.length):=by rw [hlw];simp only [lAP];omega
 refine z0A ?_
 rw [e1]
 cases hc:decide (i<w.length)
 ·simp only [lAC] at hc
  obtain rfl:i=w.length:=by omega
  refine z0A ?_
  rw [hlw]
  refine z0A ?_
  refine z3S rfl v1 (z3D (by rw [z4a];omega)) ?_
  refine z0A ?_
  exact z0Y rfl ⟨rfl,vi⟩
 ·simp only [lAD] at hc
  have hl:=z4a f w i
  generalize hLs:z3Q f w i=L at *
  refine z0A ?_
  refine z0F (w.length+1) (fun j al H'=>al=[(0,av),(1,.int .i64 k),(2,wv),(7,.sl H.length 0 (w.length+1) 1),(8,.int .i64 i),(9,.int .i64 (i+1+j:Nat))]∧z3U (z1M D) mid H H'∧H'[H.length]? =some (BL (z6Q f w (L.getD i false) (i+1) i L (i+1+j)))) ⟨rfl,vi,by rw [zCt (by omega)];exact v1⟩ ?_
  clear v1 vi V
  rintro j _ V hj ⟨rfl,vi,v1⟩
  have hVl:=vi.len
  have hl2:(z6Q f w (L.getD i false) (i+1) i L (i+1+j)).length=w.length+1:=by rw [z7j,hl]
  have hi0:(z6Q f w (L.getD i false) (i+1) i L (i+1+j))[i]? =some (L.getD i false):=by
   rw [z2Z (z3D (by omega))]
   have:¬ i+1≤i:=by omega
   simp [this]
  have hend:i<w.length→L.getD i false=false∨w.length<i+1+j→z6Q f w (L.getD i false) (i+1) i L (i+1+j)=z3Q f w (i+1):=by
   intro hiw h
   rw [z3Q,hLs]
   rcases h with h | h
   ·rw [h,zCr]
    apply lCD
    intro k
    cases hk:L[k]? with
    | none=>simp [z6Q,hk]
    | some b=>rw [z2Z hk];simp
   ·exact z9V (by omega)
  generalize hR:z6Q f w (L.getD i false) (i+1) i L (i+1+j)=R at *
  refine z0A ?_
  refine z3S rfl v1 hi0 ?_
  have e2:decide (((i+1+j:Nat):Int)≤((w.map AV.str).length:Int))=decide (i+1+j≤w.length):=by rw [hlw];simp only [lAP];omega
  cases his:L.getD i false
  ·rw [his] at hend
   have:=hend hc (.inl rfl)
   refine z0A ?_
   exact ⟨hc,rfl,vi,by rw [←this];exact v1⟩
  rw [his] at hR hend
  refine z0A ?_
  rw [e2]
  cases hk:decide (i+1+j≤w.length)
  ·simp only [lAC] at hk
   have:=hend hc (.inr (by omega))
   refine z0A ?_
   exact ⟨hc,rfl,vi,by rw [←this];exact v1⟩
  simp only [lAD] at hk
  have hat:=zCu (f:=f) (w:=w) (is:=true) (lo:=i+1) (i:=i) (l:=L) (m:=i+1+j) (by omega)
  have hst:=z7h (f:=f) (w:=w) (lo:=i+1) (i:=i) (l:=L) (m:=i+1+j) (by omega) (by omega)
  rw [hR] at hat hst
  refine z0A ?_
  refine z3S rfl v1 hat ?_
  cases hb:L.getD (i+1+j) false
  ·rw [hb,lCL] at hst
   refine z0A ?_
   refine z8u (a:=i) (b:=i+1+j) rfl hs rfl (by rw [hlw];exact zSn (by omega) (by omega)) ?_
   intro pv hpv
   have hpv:=z5m hpv
   refine z0A ?_
   refine z0L rfl (hf V pv (sub w i (i+1+j)) hpv (hg.sub _ _) (lBM (z9y _ _ _) hw) vi.self) ?_ ?_
   ·rintro u V' ⟨hu,hin⟩
    cases hu
    have v2:=hin.old hnl v1
    have vi2:=vi.trans hin
    refine z0A ?_
    refine z3R rfl rfl v2 (by omega) ?_
    refine z0A ?_
    refine ⟨by omega,rfl,vi2.own (by omega) (by omega),?_⟩
    rw [lAU (lAA.1 v2).1,hst];rfl
   ·rintro u V' ⟨hu,_⟩
    cases hu
  ·rw [hb,lD5] at hst
   refine z0A ?_
   refine z3R rfl rfl v1 (by omega) ?_
   refine z0A ?_
   refine ⟨by omega,rfl,vi.own (by omega) (by omega),?_⟩
   rw [lAU (lAA.1 v1).1,hst];rfl
end
def zJN (D:Nat→List Bt→Bool) (mid:Nat) (av:AV) (ks:List Nat) (fs:List (List Bt→Bool)):Prop:=ks.length=fs.length∧∀ (i k:Nat) (f:List Bt→Bool),ks[i]? =some k→fs[i]? =some f→z8P D mid av k f
theorem a285 {D:Nat→List Bt→Bool} {mid:Nat} {av kv wv:AV} {ks:List Nat} {fs:List (List Bt→Bool)} {w:List Bt} {H:z0B} (hk:Sl 1 kv (ks.map z0w)) (hf:zJN D mid av ks fs) (hn:ks.length≤1000000)
  (hs:Sl 1 wv (w.map .str)) (hg:GW w) (hw:w.length≤1000000) (ha:z3U (z1M D) mid H H):z0D PP 244 [av,kv,wv] H (z6f (z1M D) mid H (zAz fs w)):=by
 obtain ⟨hlen,hf⟩:=hf
 refine zTg.c3 z0R mixed rfl ?_
 rw [lAK]
 have hml:=ha.lt
 have hlw:(w.map AV.str).length=w.length:=lAE _
 have hlk:(ks.map z0w).length=ks.length:=lAE _
 refine z0A ?_
 rw [hlw]
 refine z8U rfl (by omega) ?_
 have x1:(H++[BL (List.replicate (w.length+1) false)])[H.length]? =some (BL (List.replicate (w.length+1) false)):=z0K
 have xi:=ha.app [BL (List.replicate (w.length+1) false)]
 generalize (H++[BL (List.replicate (w.length+1) false)]:z0B)=X at *
 refine z0A ?_
 refine z3C (i:=0) rfl rfl (by omega) ?_
 refine z3R rfl rfl x1 (by simp) ?_
 have hxl:=xi.len
 have hx1:=(lAA.1 x1).1
 have y1:(X.set H.length (BL ((List.replicate (w.length+1) false).set 0 true)))[H.length]? =some (BL (z2e (fs.take 0) w (z8h w.length))):=by
  rw [lAU hx1];rfl
 have yi:=xi.own (id:=H.length) (x:=BL ((List.replicate (w.length+1) false).set 0 true)) (by omega) (by omega)
 generalize (X.set H.length (BL ((List.replicate (w.length+1) false).set 0 true)))=Y at *
 clear x1 xi hx1 hxl X
 refine z0A ?_
 refine z0F ks.length (fun i al H'=>∃ eb,al=[(0,av),(1,kv),(2,wv),(7,.sl eb 0 (w.length+1) 1),(8,.int .i64 i)]∧z3U (z1M D) mid H H'∧H.length≤eb∧H'[eb]? =some (BL (z2e (fs.take i) w (z8h w.length)))) ⟨_,rfl,yi,lAL _,y1⟩ ?_
 clear y1 yi Y
 rintro i _ V hi ⟨eb,rfl,vi,heb,v1⟩
 have e1:decide ((i:Int)<((ks.map z0w).length:Int))=decide (i<ks.length):=by rw [hlk];simp only [lAP];omega
 refine z0A ?_
 rw [e1]
 cases hc:decide (i<ks.length)
 ·simp only [lAC] at hc
  have:fs.take i=fs:=lAS (by omega)
  rw [this] at v1
  refine z0A ?_
  rw [hlw]
  refine z0A ?_
  refine z3S rfl v1 (z3D (by rw [z4x _ _ _ (by simp [z8h])];omega)) ?_
  refine z0A ?_
  exact z0Y rfl ⟨rfl,vi⟩
 simp only [lAD] at hc
 obtain ⟨k,hv⟩:=z0M (l:=ks) (i:=i) hc
 obtain ⟨f,hfi⟩:=z0M (l:=fs) (i:=i) (by omega)
 have hav:=hf i k f hv hfi
 have hkv:(ks.map z0w)[i]? =some (z0w k):=by rw [lAM,hv];rfl
 have htk:z2e (fs.take (i+1)) w (z8h w.length)=zGQ f w (z2e (fs.take i) w (z8h w.length)):=by
  rw [lBA,hfi]
  exact z7M _ _ _ _
 have hle:=z4x w (fs.take i) (z8h w.length) (by simp [z8h])
 generalize hE:z2e (fs.take i) w (z8h w.length)=E at *
 refine z0A ?_
 rw [hlw]
 refine z8U rfl (by omega) ?_
 have x1:(V++[BL (List.replicate (w.length+1) false)])[V.length]? =some (BL (z4N f w E 0)):=z0K
 have x0:=z0G (G:=[BL (List.replicate (w.length+1) false)]) v1
 have xi:=vi.app [BL (List.replicate (w.length+1) false)]
 have hVl:=vi.len
 have hne:V.length≠eb:=by
  have:=(lAA.1 v1).1
  omega
 generalize (V++[BL (List.replicate (w.length+1) false)]:z0B)=X at *
 generalize V.length=nb at *
 clear v1 vi V
 refine z0A ?_
 refine z0F (w.length+1) (fun q al H'=>al=[(0,av),(1,kv),(2,wv),(7,.sl eb 0 (w.length+1) 1),(8,.int .i64 i),(9,.sl nb 0 (w.length+1) 1),(10,.int .i64 q)]∧z3U (z1M D) mid H H'∧H'[eb]? =some (BL E)∧H'[nb]? =some (BL (z4N f w E q))) ⟨rfl,xi,x0,x1⟩ ?_
 clear x0 x1 xi X
 rintro q _ V hq ⟨rfl,vi,v0,v1⟩
 have e2:decide ((q:Int)≤((w.map AV.str).length:Int))=decide (q<w.length+1):=by rw [hlw];simp only [lAP];omega
 refine z0A ?_
 rw [e2]
 cases hc2:decide (q<w.length+1)
 ·simp only [lAC] at hc2
  obtain rfl:q=w.length+1:=by omega
  refine z0A ?_
  exact ⟨hc,nb,rfl,vi,hVl,by rw [htk];exact v1⟩
 simp only [lAD] at hc2
 have hgq:=z3D (l:=E) (k:=q) (by omega)
 have hl:=z7t f w E q
 have hLs:z4N f w E (q+1)=zCs f w (E.getD q false) q q (z4N f w E q):=rfl
 generalize z4N f w E q=L at *
 generalize E.getD q false=is at *
 refine z0A ?_
 refine z0F (w.length+1) (fun j al H'=>al=[(0,av),(1,kv),(2,wv),(7,.sl eb 0 (w.length+1) 1),(8,.int .i64 i),(9,.sl nb 0 (w.length+1) 1),(10,.int .i64 q),(11,.int .i64 (q+j:Nat))]∧z3U (z1M D) mid H H'∧H'[eb]? =some (BL E)∧H'[nb]? =some (BL (z6Q f w is q q L (q+j)))) ⟨rfl,vi,v0,by rw [zCt (by omega)];exact v1⟩ ?_
 clear v0 v1 vi V
 rintro j _ V hj ⟨rfl,vi,v0,v1⟩
 have hVl2:=vi.len
 have hl2:(z6Q f w is q q L (q+j)).length=w.length+1:=by rw [z7j,hl]
 have hend:is=false∨w.length<q+j→z6Q f w is q q L (q+j)=z4N f w E (q+1):=by
  intro h
  rw [hLs]
  rcases h with h | h
  ·rw [h,zCr]
   apply lCD
   intro k
   cases hk:L[k]? with
   | none=>simp [z6Q,hk]
   | some b=>rw [z2Z hk];simp
  ·exact z9V (by omega)
 generalize hR:z6Q f w is q q L (q+j)=R at *
 have e3:decide (((q+j:Nat):Int)≤((w.map AV.str).length:Int))=decide (q+j≤w.length):=by rw [hlw];simp only [lAP];omega
 refine z0A ?_
 refine z3S rfl v0 hgq ?_
 cases is
 ·have:=hend (.inl rfl)
  refine z0A ?_
  exact ⟨by omega,rfl,vi,v0,by rw [←this];exact v1⟩
 refine z0A ?_
 rw [e3]
 cases hk:decide (q+j≤w.length)
 ·simp only [lAC] at hk
  have:=hend (.inr (by omega))
  refine z0A ?_
  exact ⟨by omega,rfl,vi,v0,by rw [←this];exact v1⟩
 simp only [lAD] at hk
 have hat:=zCu (f:=f) (w:=w) (is:=true) (lo:=q) (i:=q) (l:=L) (m:=q+j) (by omega)
 have hst:=z7h (f:=f) (w:=w) (lo:=q) (i:=q) (l:=L) (m:=q+j) (by omega) (by omega)
 rw [hR] at hat hst
 have hnm:nb≠mid:=by omega
 refine z0A ?_
 refine z3k (z2h [mid]) ?_
 refine z5e ?_
 refine z3S rfl v1 hat ?_
 cases hb:L.getD (q+j) false
 ·rw [hb,lCL] at hst
  refine z5e ?_
  refine z8u (a:=q) (b:=q+j) rfl hs rfl (by rw [hlw];exact zSn (by omega) (by omega)) ?_
  intro pv hpv
  have hpv:=z5m hpv
  refine zCe ?_
  refine z5e ?_
  refine zNb (R:=z6f (z1M D) mid V (f (sub w q (q+j)))) rfl (lAL _) rfl rfl (hav V pv (sub w q (q+j)) hpv (hg.sub _ _) (lBM (z9y _ _ _) hw) vi.self) ?_ ?_
  rotate_left
  ·rintro u V' ⟨hu,_⟩
   cases hu
  rintro u V1 ⟨hu,hin⟩
  cases hu
  refine ⟨hin.mod,?_⟩
  have v2:=hin.old hnm v1
  have v3:=hin.old (by omega) v0
  have vi2:=vi.trans hin
  have hV1:=hin.len
  refine z5e ?_
  refine zQN rfl rfl rfl (by omega) ?_
  refine z3R rfl rfl v2 (by omega) ?_
  refine z3y ?_
  refine z5e ?_
  refine ⟨by omega,rfl,vi2.own (by omega) (by omega),?_,?_⟩
  ·rw [lCE hne];exact v3
  ·rw [lAU (lAA.1 v2).1,hst];rfl
 ·rw [hb,lD5] at hst
  refine z5e ?_
  refine zXk rfl (lAL _) rfl rfl ?_
  refine z5e ?_
  refine zQN rfl rfl rfl (by omega) ?_
  refine z3R rfl rfl v1 (by omega) ?_
  refine z3y ?_
  refine z5e ?_
  refine ⟨by omega,rfl,vi.own (by omega) (by omega),?_,?_⟩
  ·rw [lCE hne];exact v0
  ·rw [lAU (lAA.1 v1).1,hst];rfl
def zBv (f g h:List Bt→Bool) (w:List Bt) (i k:Nat):Bool:=!(decide (i≤k)&&f (sub w i k))||(z2u g (w.take i)&&z0g h (w.drop k))
theorem a289 {D:Nat→List Bt→Bool} {mid x y z:Nat} {av kv wv:AV} {r:List Nat} {f g h:List Bt→Bool} {w:List Bt} {H:z0B} (hk:Sl 1 kv ((x::y::z::r).map z0w))
  (hf:z8P D mid av x f) (hg:z8P D mid av y g) (hh:z8P D mid av z h) (hs:Sl 1 wv (w.map .str)) (hgw:GW w) (hw:w.length≤1000000) (ha:z3U (z1M D) mid H H) :
  z0D PP 248 [av,kv,wv] H (z6f (z1M D) mid H (zEf f g h w)):=by
 refine zTd.c3 z0R mixed rfl ?_
 rw [lAK]
 have hml:=ha.lt
 have hlw:(w.map AV.str).length=w.length:=lAE _
 show WI _ _ (z3m _ (z6f (z1M D) mid H ((List.range (w.length+1)).all fun i=>(List.range (w.length+1)).all (zBv f g h w i)))) _ _
 refine z0A ?_
 refine z0F (w.length+1) (fun i al H'=>al=[(0,av),(1,kv),(2,wv),(7,.int .i64 i)]∧z3U (z1M D) mid H H'∧((List.range i).all fun i=>(List.range (w.length+1)).all (zBv f g h w i))=true) ⟨rfl,ha,rfl⟩ ?_
 rintro i _ V hi ⟨rfl,vi,v1⟩
 have e1:decide ((i:Int)≤((w.map AV.str).length:Int))=decide (i<w.length+1):=by rw [hlw];simp only [lAP];omega
 refine z0A ?_
 rw [e1]
 cases hc:decide (i<w.length+1)
 ·simp only [lAC] at hc
  obtain rfl:i=w.length+1:=by omega
  refine z0A ?_
  exact z0Y rfl ⟨by rw [v1];rfl,vi⟩
 simp only [lAD] at hc
 refine z0A ?_
 refine z0F (w.length+1) (fun j al H'=>al=[(0,av),(1,kv),(2,wv),(7,.int .i64 i),(8,.int .i64 (i+j:Nat))]∧z3U (z1M D) mid H H'∧(List.range (i+j)).all (zBv f g h w i)=true) ⟨rfl,vi,zNM fun k hk=>by
  have:¬ i≤k:=by omega
  simp [zBv,this]⟩ ?_
 clear vi V
 rintro j _ V hj ⟨rfl,vi,v2⟩
 have e2:decide (((i+j:Nat):Int)≤((w.map AV.str).length:Int))=decide (i+j≤w.length):=by rw [hlw];simp only [lAP];omega
 refine z0A ?_
 rw [e2]
 cases hk2:decide (i+j≤w.length)
 ·simp only [lAC] at hk2
  refine z0A ?_
  refine ⟨by omega,rfl,vi,z6b v1 ?_⟩
  rw [lAX] at v2 ⊢
  intro k hk
  exact v2 k (lAZ.2 (by have:=lAZ.1 hk;omega))
 simp only [lAD] at hk2
 have hgx:((x::y::z::r).map z0w)[0]? =some (z0w x):=rfl
 have hgy:((x::y::z::r).map z0w)[1]? =some (z0w y):=rfl
 have hgz:((x::y::z::r).map z0w)[2]? =some (z0w z):=rfl
 have hVl:=vi.len
 refine z0A ?_
 refine z1f (z2h [mid]) ?_
 refine z0A ?_
 refine z8u (a:=i) (b:=i+j) rfl hs rfl (by rw [hlw];exact zSn (by omega) (by omega)) ?_
 intro pv hpv
 have hpv:=z5m hpv
 refine z6x ?_
 have hP:zBv f g h w i (i+j)=(!f (sub w i (i+j))||(z2u g (w.take i)&&z0g h (w.drop (i+j)))):=by
  have:i≤i+j:=by omega
  simp [zBv,this]
 refine z5B (R:=z6f (z1M D) mid V (f (sub w i (i+j)))) rfl (lAL _) rfl (hf V pv _ hpv (hgw.sub _ _) (lBM (z9y _ _ _) hw) vi.self) ?_ ?_
 rotate_left
 ·rintro u V' ⟨hu,_⟩
  cases hu
 rintro u V1 ⟨hu,hin⟩
 cases hu
 refine ⟨hin.mod,?_⟩
 have vi1:=vi.trans hin
 have hV1:=hin.len
 cases hb:f (sub w i (i+j))
 ·rw [hb] at hP
  refine z0A ?_
  refine zDn rfl hV1 rfl rfl ?_
  refine z0A ?_
  refine zKq rfl hV1 rfl ?_
  refine z0A ?_
  exact ⟨by omega,rfl,vi1,z6b v2 hP⟩
 rw [hb,lDL,lCL] at hP
 refine z0A ?_
 refine z8u (a:=0) (b:=i) rfl hs rfl (by rw [hlw];exact b3_f (by omega)) ?_
 intro qv hqv
 have hqv:=z5m hqv
 have hdr:sub w 0 i=w.take i:=by unfold sub;simp
 rw [hdr] at hqv
 refine z6x ?_
 refine z7V (R:=z6f (z1M D) mid V1 (z2u g (w.take i))) rfl hV1 rfl rfl (a205 hg hqv (hgw.take _) (by simp;omega) vi1.self) ?_ ?_
 rotate_left
 ·rintro u V' ⟨hu,_⟩
  cases hu
 rintro u V2 ⟨hu,hin2⟩
 cases hu
 refine ⟨hin2.mod,?_⟩
 have vi2:=vi1.trans hin2
 have hV2:=hin2.len
 cases hb2:z2u g (w.take i)
 ·rw [hb2,lD8] at hP
  refine z0A ?_
  refine zDn rfl (lBM hV1 hV2) rfl rfl ?_
  refine z0A ?_
  exact z0Y rfl ⟨by rw [z4F hc (z4F (i:=i+j) (by omega) hP)];rfl,vi2⟩
 rw [hb2,lCT] at hP
 refine z0A ?_
 refine z8u (a:=i+j) (b:=w.length) rfl hs rfl (by rw [hlw];exact zSn (by omega) (lAL _)) ?_
 intro rv hrv
 have hrv:=z5m hrv
 have hdr2:sub w (i+j) w.length=w.drop (i+j):=z9t w (i+j)
 rw [hdr2] at hrv
 refine z6x ?_
 refine z7V (R:=z6f (z1M D) mid V2 (z0g h (w.drop (i+j)))) rfl (lBM hV1 hV2) rfl rfl (a206 hh hrv (hgw.drop _) (by simp;omega) vi2.self) ?_ ?_
 rotate_left
 ·rintro u V' ⟨hu,_⟩
  cases hu
 rintro u V3 ⟨hu,hin3⟩
 cases hu
 refine ⟨hin3.mod,?_⟩
 have vi3:=vi2.trans hin3
 cases hb3:z0g h (w.drop (i+j))
 ·rw [hb3] at hP
  refine z0A ?_
  exact z0Y rfl ⟨by rw [z4F hc (z4F (i:=i+j) (by omega) hP)];rfl,vi3⟩
 ·rw [hb3] at hP
  refine z0A ?_
  exact ⟨by omega,rfl,vi3,z6b v2 hP⟩
end Go.Ab
