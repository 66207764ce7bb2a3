/- Part 38 of the proof. -/
import Derived.Sort.Walk0
import Derived.Test.YtagcckioikbanaaGreatDoorM27
import Derived.Test.YtagcckioikbanaaGreatDoorM33
import Derived.Test.YtagcckioikbanaaGreatDoorM37
set_option linter.unusedVariables false
set_option linter.unusedSimpArgs false
namespace Go.Ab
open Go
set_option maxRecDepth 100000
set_option maxHeartbeats 8000000
theorem a227 (s:Bt) (H:z0B):z0D PP 201 [.str s] H (z1A H (.bool false)):=by
 refine z0D.gives (zTu.c1 z0R mixed rfl ?_)
 have e:(!(s==s))=false:=by simp
 refine z0A ?_
 exact fr (hv:=congrArg (fun b=>some (AV.bool b)) e)
theorem a185 (s:Bt) (H:z0B):z0D PP 161 [.str s] H (z1A H (.bool false)):=by
 refine z0D.gives (zUJ.c1 z0R mixed rfl ?_)
 have e:(!(s==s))=false:=by simp
 refine z0A ?_
 exact fr (hv:=congrArg (fun b=>some (AV.bool b)) e)
theorem a184 (s t:Bt) (H:z0B):z0D PP 160 [.str s,.str t] H (z1A H (.bool (decide (s<t)))):=by
 refine z0D.gives (zUK.c2 z0R mixed rfl ?_)
 refine z0A ?_
 refine z0H rfl (a227 s _) ?_
 refine z0A ?_
 rw [Go.Proofs.bytesLess_eq]
 exact fr
section mid
variable {P:Program} {H:z0B} {al:AL} {K:KL} {Qp:AL→AV→z0B→Prop} {os:List IOper} {d:Nat} {x:Arg}
theorem zXq {n:Nat} (hx:evL al x=.int .i64 n) (hn:n≤9223372036854775807) (h:VV P os ((d,.int .u64 n)::al) H K Qp):VV P (⟨some d,.i (.d (.conv .u64)),[x],none,none⟩::os) al H K Qp:=by
 refine z2S (v:=.int .u64 n) ?_ h
 simp only [z0u,hx,z1W]
 have:IntKind.wrap .u64 (n:Int)=n:=by rw [IntKind.wrap_u64];omega
 rw [this]
theorem zXr {n:Nat} (hx:evL al x=.int .u64 n) (hn:n≤9223372036854775807) (h:VV P os ((d,.int .i64 n)::al) H K Qp):VV P (⟨some d,.i (.d (.conv .i64)),[x],none,none⟩::os) al H K Qp:=by
 refine z2S (v:=.int .i64 n) ?_ h
 simp only [z0u,hx,z1W]
 rw [zKk (by omega) (by omega)]
theorem zRF {n:Nat} (hx:evL al x=.int .u64 n) (h:VV P os ((d,.int .u64 (n / 2:Nat))::al) H K Qp):VV P (⟨some d,.i (.d (.bin .shr)),[x,.const (.int .u64 1)],none,none⟩::os) al H K Qp:=by
 refine z2S (v:=.int .u64 (n / 2:Nat)) ?_ h
 have e:evL al (.const (.int .u64 1))=.int .u64 1:=rfl
 simp only [z0u,hx,e,z1W,zDV]
 rw [if_neg (by decide)]
 have:(n:Int).fdiv (2 ^ Nat.min (1:Int).toNat IntKind.u64.bits)=((n / 2:Nat):Int):=by
  have h2:(2:Int) ^ Nat.min (1:Int).toNat IntKind.u64.bits=2:=by rfl
  rw [h2,Int.fdiv_eq_ediv_of_nonneg _ (by omega)];omega
 rw [this]
end mid
def zCX (l:List Bt):Prop:=l.Pairwise (· < ·)
theorem zCX.lt {l:List Bt} (h:zCX l) {i j:Nat} {a b:Bt} (ha:l[i]? =some a) (hb:l[j]? =some b) (hij:i<j):a<b:=by
 obtain ⟨h1,rfl⟩:=lAA.1 ha
 obtain ⟨h2,rfl⟩:=lAA.1 hb
 exact lDD.1 h i j h1 h2 hij
theorem a105 {lv:AV} {l:List Bt} {t:Bt} (hl:Sl 1 lv (l.map .str)) (hs:zCX l) (hn:l.length≤1000000) (H:z0B) :
  z0D PP 91 [lv,.str t] H (fun r H'=>∃ i:Nat,r=.ret (.tuple [.int .i64 i,.bool (decide (t∈l))])∧(t∈l→l[i]? =some t)∧H'=H):=by
 refine is91.c2 z0R mixed rfl ?_
 rw [lAK]
 have hlen:(l.map AV.str).length=l.length:=lAE _
 refine z0A ?_
 rw [hlen]
 refine zPd (fun n al H'=>∃ i j:Nat,n=j-i∧i≤j∧j≤l.length∧al=[(0,lv),(1,.str t),(6,.int .i64 l.length),(7,.int .i64 i),(8,.int .i64 j)]∧H'=H∧(∀ k x,k<i→l[k]? =some x→x<t)∧(∀ k x,j≤k→l[k]? =some x→¬ x<t)) l.length ⟨0,l.length,by omega,by omega,by omega,rfl,rfl,fun k x hk=>by omega,fun k x hk hx=>by
  have:=(lAA.1 hx).1
  omega⟩ ?_
 rintro n al V ⟨i,j,rfl,hij,hj,rfl,rfl,hlo,hhi⟩
 have e1:decide ((i:Int)<(j:Int))=decide (i<j):=by simp only [lAP];omega
 refine z0A ?_
 rw [e1]
 cases hc:decide (i<j)
 ·simp only [lAC] at hc
  obtain rfl:i=j:=by omega
  have e2:decide ((i:Int)<(l.length:Int))=decide (i<l.length):=by simp only [lAP];omega
  refine z0A ?_
  rw [e2]
  cases hc2:decide (i<l.length)
  ·simp only [lAC] at hc2
   have hnot:t∉l:=fun hm=>by
    obtain ⟨k,hk,rfl⟩:=lBR.1 hm
    exact List.lt_irrefl _ (hlo k _ (by omega) (lAG hk))
   refine z0A ?_
   exact z0Y rfl ⟨i,by rw [decide_eq_false hnot];rfl,fun h=>absurd h hnot,rfl⟩
  ·simp only [lAD] at hc2
   obtain ⟨c,hci⟩:=z0M (l:=l) (i:=i) hc2
   have hcv:(l.map AV.str)[i]? =some (.str c):=by rw [lAM,hci];rfl
   cases hct:(c==t)
   ·have hnot:t∉l:=fun hm=>by
     obtain ⟨k,hk,e⟩:=lBR.1 hm
     have hk':l[k]? =some t:=by rw [lAG hk,e]
     rcases Nat.lt_trichotomy k i with h | h | h
     ·exact List.lt_irrefl _ (hlo k _ h hk')
     ·subst h
      rw [hci] at hk'
      injection hk' with hk';subst hk'
      simp at hct
     ·exact hhi i c (lAL _) hci (hs.lt hci hk' h)
    refine z0A ?_
    refine z0H rfl (a185 c _) ?_
    refine z0A ?_
    exact z0Y rfl ⟨i,by rw [decide_eq_false hnot];rfl,fun h=>absurd h hnot,rfl⟩
   ·have he:c=t:=by simpa using hct
    have hmem:t∈l:=by rw [←he];exact lAF hci
    refine z0A ?_
    exact z0Y rfl ⟨i,by rw [decide_eq_true hmem];rfl,fun _=>by rw [hci,he],rfl⟩
 ·simp only [lAD] at hc
  obtain ⟨c,hcm⟩:=z0M (l:=l) (i:=(i+j) / 2) (by omega)
  have hcv:(l.map AV.str)[(i+j) / 2]? =some (.str c):=by rw [lAM,hcm];rfl
  refine z0A ?_
  refine z2A rfl rfl (by omega) ?_
  refine zXq rfl (by omega) ?_
  refine zRF rfl ?_
  refine zXr rfl (by omega) ?_
  refine z0A ?_
  refine z0H rfl (a184 c t _) ?_
  cases hct:decide (c<t)
  ·simp only [lAC] at hct
   refine z0A ?_
   refine ⟨_,?_,i,(i+j) / 2,rfl,by omega,by omega,rfl,rfl,hlo,fun k x hk hx=>?_⟩
   ·omega
   ·rcases lBB ((i+j) / 2) k with h | h
    ·have:=hs.lt hcm hx h
     intro h2
     exact hct (List.lt_trans this h2)
    ·obtain rfl:k=(i+j) / 2:=by omega
     rw [hcm] at hx
     injection hx with hx;subst hx;exact hct
  ·simp only [lAD] at hct
   refine z0A ?_
   refine ⟨_,?_,(i+j) / 2+1,j,rfl,by omega,by omega,rfl,rfl,fun k x hk hx=>?_,hhi⟩
   ·omega
   ·rcases lBB k ((i+j) / 2) with h | h
    ·exact List.lt_trans (hs.lt hx hcm h) hct
    ·obtain rfl:k=(i+j) / 2:=by omega
     rw [hcm] at hx
     injection hx with hx;subst hx;exact hct
def zKa (H0 H:z0B) (v:AV) (l:List AV):Prop :=
 Ext H0 H∧((l=[]∧v=.nilslice)∨∃ id cs,v=.sl id 0 l.length 1∧H[id]? =some (.cells cs)∧cs.take l.length=l∧l.length≤cs.length∧H0.length≤id)
section own
variable {P:Program} {H0 X:z0B} {al:AL} {K:KL} {Qp:AL→AV→z0B→Prop} {os:List IOper} {d:Nat} {x y:Arg}
theorem zKa.nil {H:z0B} (h:Ext H0 H):zKa H0 H .nilslice []:=⟨h,.inl ⟨rfl,rfl⟩⟩
theorem zKa.app {v:AV} {l:List AV} (h:zKa H0 X v l) (G:z0B):zKa H0 (X++G) v l:=by
 obtain ⟨⟨G0,rfl⟩,h⟩:=h
 refine ⟨⟨G0++G,by simp⟩,?_⟩
 rcases h with h | ⟨id,cs,h1,h2,h3⟩
 ·exact .inl h
 ·exact .inr ⟨id,cs,h1,z0G h2,h3⟩
theorem zLJ {bytes:Nat} {v e:AV} {l:List AV} (hx:evL al x=v) (ho:zKa H0 X v l) (hy:evL al y=.sl X.length 0 1 1) (hsc:AV.scalar e=true) (hb:(l.length+1)*bytes≤140737488355328)
  (h:∀ v' H',zKa H0 H' v' (l++[e])→v'≠.nilslice→VV P os ((d,v')::al) H' K Qp):VV P (⟨some d,.i (.m (.append 1 bytes)),[x,y],none,none⟩::os) al (X++[.cells [e]]) K Qp:=by
 have hys:z1m 1 (X++[.cells [e]]) (evL al y)=some (1,[e]):=by rw [hy];exact z1y (by simp)
 obtain ⟨hE,ho⟩:=ho
 rcases ho with ⟨rfl,rfl⟩ | ⟨id,cs,rfl,h2,h3,h4,h5⟩
 ·refine z3z hx hys (by omega) (by simp [hsc]) (by simpa using hb) (h _ _ ⟨?_,.inr ⟨_,[e],rfl,z0K,rfl,by simp,?_⟩⟩ (by simp))
  ·obtain ⟨G,rfl⟩:=hE
   exact ⟨G++[.cells [e]]++[.cells [e]],by simp⟩
  ·obtain ⟨G,rfl⟩:=hE
   simp
 ·have hid:=(lAA.1 h2).1
  refine z4L hx (z0G h2) (by omega) hys (by simp [hsc]) (by simpa using hb) ?_
  have hl:((cs.drop 0).take (l.length*1)++[e])=l++[e]:=by rw [lBL,lCA,h3]
  rw [hl]
  have hE':Ext H0 ((X++[.cells [e]]:z0B).set id .dead):=by
   obtain ⟨G,rfl⟩:=hE
   exact ⟨(G++[Blk.cells [e]]).set (id-H0.length) .dead,by rw [lA2,lBC _ _ h5]⟩
  have hln:((X++[.cells [e]]:z0B).set id .dead).length=(X++[.cells [e]]:z0B).length:=by simp
  rw [←hln]
  refine h _ _ ⟨?_,.inr ⟨_,l++[e],by simp,z0K,lAS (by simp),by simp,?_⟩⟩ (by simp)
  ·obtain ⟨G,e1⟩:=hE'
   exact ⟨G++[.cells (l++[e])],by rw [e1];simp⟩
  ·rw [hln]
   obtain ⟨G,rfl⟩:=hE
   simp
theorem zSu {bytes n:Nat} {z:AV} (hx:evL al x=.int .i64 n) (hn:n*bytes≤140737488355328) (hn2:n≤1000000000) (h:VV P os ((d,.sl X.length 0 0 1)::al) (X++[.cells (z1J n [z])]) K Qp) :
  VV P (⟨some d,.i (.m (.makeSlice 1 bytes [z])),[.const (.int .i64 0),x],none,none⟩::os) al X K Qp:=by
 refine z8X ?_ h
 have e0:evL al (.const (.int .i64 0))=.int .i64 0:=rfl
 simp only [z5a,z6m,z0u,hx,e0]
 have:(bytes:Int)*(n:Int)≤281474976710656:=by
  rw [←Int.natCast_mul,Nat.mul_comm];omega
 rw [if_pos ⟨by omega,by omega,by omega,this⟩]
 unfold put;rw [if_neg (by omega),lDX];rfl
theorem z1B:∀ {l:List AV},(∀ x∈l,x.cells=[x])→z0j l=l
 | [],_=>rfl
 | a::l,h=>by
  show a.cells++z0j l=_
  rw [h a (by simp),z1B fun x hx=>h x (lA8 _ hx)];rfl
theorem zKa.tup {H:z0B} {v b:AV} {l:List AV} (h:zKa H0 H v l) (hv:v≠.nilslice) (h1:∀ x∈l,x.cells=[x]) (hp:z0N (.tuple [.list 1 l,b])):zBS H0 (.tuple [.list 1 l,b]) (.ret (.tuple [v,b])) H:=by
 obtain ⟨⟨G,rfl⟩,h⟩:=h
 rcases h with ⟨_,e⟩ | ⟨id,cs,rfl,h2,h3,h4,h5⟩
 ·exact absurd e hv
 ·refine ⟨_,G.set (id-H0.length) .dead,rfl,.step id cs h2 (.tuple _ [.list 1 l,b] rfl fun i=>match i with
   | 0=>.sl 0 l.length 1 l rfl (fun x hx=>by rw [h1 x hx];rfl) (by rw [z1B h1,lBL,lCA,h3]) (by omega)
   | 1=>.refl _
   | i+2=>.refl _) ?_,hp⟩
  rw [lBC _ _ h5]
  exact .done _ _
end own
def zLh (l:List Bt) (t:Bt):Int:=if t∈l then (l.idxOf t:Int) else -1
theorem zCX.uniq {l:List Bt} (h:zCX l) {i j:Nat} {t:Bt} (h1:l[i]? =some t) (h2:l[j]? =some t):i=j:=by
 rcases Nat.lt_trichotomy i j with h' | h' | h'
 ·exact absurd (h.lt h1 h2 h') (List.lt_irrefl _)
 ·exact h'
 ·exact absurd (h.lt h2 h1 h') (List.lt_irrefl _)
theorem zCX.idx {l:List Bt} (h:zCX l) {i:Nat} {t:Bt} (h1:l[i]? =some t):l.idxOf t=i:=by
 have hm:=lAF h1
 have:=lDJ.2 hm
 exact h.uniq (by rw [lAG this,List.getElem_idxOf this]) h1
theorem a106 {lv:AV} {l:List Bt} {t:Bt} (hl:Sl 1 lv (l.map .str)) (hs:zCX l) (hn:l.length≤1000000) (H:z0B):z0D PP 93 [lv,.str t] H (z1A H (.int .i64 (zLh l t))):=by
 refine z0D.gives (is93.c2 z0R mixed rfl ?_)
 refine z0A ?_
 refine z0L rfl (a105 hl hs hn _) ?_ ?_
 rotate_left
 ·rintro u V' ⟨i,hu,_⟩
  cases hu
 rintro u V' ⟨i,hu,hi,rfl⟩
 cases hu
 unfold zLh
 by_cases hm:t∈l
 ·have:=hs.idx (hi hm)
  rw [decide_eq_true hm,if_pos hm,this]
  refine z0A ?_
  exact fr
 ·rw [decide_eq_false hm,if_neg hm]
  refine z0A ?_
  exact fr
def ixs (l w:List Bt):List AV:=w.map fun t=>.int .i64 (l.idxOf t:Nat)
theorem a53 {lv wv:AV} {l w:List Bt} (hl:Sl 1 lv (l.map .str)) (hw:Sl 1 wv (w.map .str)) (hs:zCX l) (hn:l.length≤1000000) (hwn:w.length≤1000000) (hin:∀ t∈w,t∈l) (H:z0B) :
  z0D PP 44 [lv,wv] H (z1A H (.tuple [.list 1 (ixs l w),.bool true])):=by
 refine z0D.gives (is44.c2 z0R mixed rfl ?_)
 rw [lAK]
 have hlw:(w.map AV.str).length=w.length:=lAE _
 refine z0A ?_
 rw [hlw]
 refine zSu rfl (by omega) (by omega) ?_
 refine z0A ?_
 refine z0F w.length (fun i al H'=>∃ v,al=[(0,lv),(6,v),(13,wv),(14,.int .i64 w.length),(15,.int .i64 i)]∧zKa H H' v (ixs l (w.take i))∧v≠.nilslice) ⟨_,by rw [hlw];rfl,⟨⟨_,rfl⟩,.inr ⟨_,_,rfl,z0K,rfl,by simp [ixs],lAL _⟩⟩,by simp⟩ ?_
 rintro i _ V hi ⟨v,rfl,ho,hvn⟩
 have e1:decide ((i:Int)<(w.length:Int))=decide (i<w.length):=by simp only [lAP];omega
 have hlen:(ixs l (w.take i)).length=i:=by simp [ixs];omega
 refine z0A ?_
 rw [e1]
 cases hc:decide (i<w.length)
 ·simp only [lAC] at hc
  have:w.take i=w:=lAS (by omega)
  rw [this] at ho
  refine z0A ?_
  exact z0Y rfl (ho.tup hvn (fun x hx=>by
   obtain ⟨t,_,rfl⟩:=lA4.1 hx;rfl) (z0N.tuple fun x hx=>by
    simp only [lAT,lA5,or_false] at hx
    rcases hx with rfl | rfl
    ·exact z0N.list _ fun x hx=>by
      obtain ⟨t,_,rfl⟩:=lA4.1 hx;exact z0N.int _ _
    ·exact z0N.bool _))
 simp only [lAD] at hc
 obtain ⟨t,ht⟩:=z0M (l:=w) (i:=i) hc
 have htv:(w.map AV.str)[i]? =some (.str t):=by rw [lAM,ht];rfl
 have hpl:zLh l t=(l.idxOf t:Nat):=if_pos (hin t (lAF ht))
 have e2:decide (((l.idxOf t:Nat):Int)<0)=false:=decide_eq_false (by omega)
 have htk:ixs l (w.take (i+1))=ixs l (w.take i)++[.int .i64 (l.idxOf t:Nat)]:=by
  rw [lBA,ht];simp [ixs]
 refine z0A ?_
 refine z0H rfl (a106 hl hs hn _) ?_
 rw [hpl]
 refine z0A ?_
 refine z0Z (out:=[.int .i64 (l.idxOf t:Nat)]) rfl ?_
 refine zLJ rfl ho rfl rfl (by omega) ?_
 intro v' H' ho' hvn'
 rw [←htk] at ho'
 refine z0A ?_
 exact ⟨hc,v',rfl,ho',hvn'⟩
def z8r (n:Nat):AV:=.int .u8 n
theorem z9m:∀ {l:List Nat},(∀ n∈l,n<256)→z5f (l.map z8r)=some (l.map UInt8.ofNat)
 | [],_=>rfl
 | n::l,h=>by
  have ih:=z9m (l:=l) fun m hm=>h m (lA8 _ hm)
  show (match z5f (l.map z8r) with | some r=>some (UInt8.ofNat (n:Int).toNat::r) | none=>none)=_
  rw [ih];rfl
section b2s
variable {P:Program} {H0 X:z0B} {al:AL} {K:KL} {Qp:AL→AV→z0B→Prop} {os:List IOper} {d:Nat} {x y:Arg}
theorem zSv {v:AV} {l:List Nat} (hx:evL al x=v) (ho:zKa H0 X v (l.map z8r)) (hl:∀ n∈l,n<256) (h:VV P os ((d,.str (l.map UInt8.ofNat))::al) X K Qp) :
  VV P (⟨some d,.i (.e .b2s),[x],none,none⟩::os) al X K Qp:=by
 refine z8X (H':=X) ?_ h
 have hs:∃ k,z1m 1 X v=some (k,l.map z8r):=by
  obtain ⟨_,ho⟩:=ho
  rcases ho with ⟨h1,rfl⟩ | ⟨id,cs,rfl,h2,h3,h4,_⟩
  ·exact ⟨0,by rw [h1];rfl⟩
  ·refine ⟨(l.map z8r).length,?_⟩
   simp only [z1m,if_true,h2]
   rw [if_pos (by omega),lBL,lCA,h3]
 obtain ⟨k,hk⟩:=hs
 simp only [z5a,zKg,z0u,hx,hk,z9m hl]
theorem zXs {n:Nat} (hx:evL al x=.int .i64 n) (hn:n<256) (h:VV P os ((d,z8r n)::al) X K Qp):VV P (⟨some d,.i (.d (.conv .u8)),[x],none,none⟩::os) al X K Qp:=by
 refine z2S (v:=z8r n) ?_ h
 simp only [z0u,hx,z1W]
 have:IntKind.wrap .u8 (n:Int)=n:=by rw [IntKind.wrap_u8];omega
 rw [this];rfl
end b2s
def z0w (n:Nat):AV:=.int .i64 n
theorem a58 {iv:AV} {l:List Nat} (hl:Sl 1 iv (l.map z0w)) (h256:∀ n∈l,n<256) (hn:l.length≤1000000) (H:z0B):z0D PP 45 [iv] H (z1A H (.str (l.map UInt8.ofNat))):=by
 refine z0D.gives (is45.c1 z0R mixed rfl ?_)
 rw [lAK]
 have hlen:(l.map z0w).length=l.length:=lAE _
 refine z0A ?_
 refine z0F l.length (fun i al H'=>∃ v,al=[(3,v),(6,iv),(7,.int .i64 l.length),(8,.int .i64 i)]∧zKa H H' v ((l.take i).map z8r)) ⟨_,by rw [hlen];rfl,zKa.nil ⟨[],by simp⟩⟩ ?_
 rintro i _ V hi ⟨v,rfl,ho⟩
 have e1:decide ((i:Int)<(l.length:Int))=decide (i<l.length):=by simp only [lAP];omega
 have htl:((l.take i).map z8r).length=i:=by simp;omega
 refine z0A ?_
 rw [e1]
 cases hc:decide (i<l.length)
 ·simp only [lAC] at hc
  have:l.take i=l:=lAS (by omega)
  rw [this] at ho
  refine z0A ?_
  refine zSv rfl ho h256 ?_
  obtain ⟨⟨G,rfl⟩,_⟩:=ho
  refine z0A ?_
  exact fr
 simp only [lAD] at hc
 obtain ⟨n,hni⟩:=z0M (l:=l) (i:=i) hc
 have hv:(l.map z0w)[i]? =some (z0w n):=by rw [lAM,hni];rfl
 have htk:(l.take (i+1)).map z8r=(l.take i).map z8r++[z8r n]:=by
  rw [lBA,hni];simp
 refine z0A ?_
 refine zXs rfl (h256 n (lAF hni)) ?_
 refine z0Z (out:=[z8r n]) rfl ?_
 refine zLJ rfl ho rfl rfl (by omega) ?_
 intro v' H' ho' hvn'
 rw [←htk] at ho'
 refine z0A ?_
 exact ⟨hc,v',rfl,ho'⟩
def mu (l:List Bt) (t:Bt):UInt8:=UInt8.ofNat (l.idxOf t)
theorem a29 {lv wv:AV} {l w:List Bt} (hl:Sl 1 lv (l.map .str)) (hw:Sl 1 wv (w.map .str)) (hs:zCX l) (hn:l.length≤256) (hwn:w.length≤1000000) (hin:∀ t∈w,t∈l) (H:z0B) :
  z0D PP 20 [lv,wv] H (z1A H (.str (w.map (mu l)))):=by
 refine z0D.gives (is20.c2 z0R mixed rfl ?_)
 have e:ixs l w=(w.map fun t=>l.idxOf t).map z0w:=by rw [lB0];rfl
 have k53:=a53 hl hw hs (by omega) hwn hin
 rw [e] at k53
 have hsl:Sl 1 (.list 1 ((w.map fun t=>l.idxOf t).map z0w)) ((w.map fun t=>l.idxOf t).map z0w):=.list _
 have k58:=a58 hsl (fun n hn'=>by
  obtain ⟨t,ht,rfl⟩:=lA4.1 hn'
  have:=lDJ.2 (hin t ht)
  omega) (by rw [lAE];exact hwn)
 have em:(w.map fun t=>l.idxOf t).map UInt8.ofNat=w.map (mu l):=by rw [lB0];rfl
 rw [em] at k58
 generalize AV.list 1 ((w.map fun t=>l.idxOf t).map z0w)=iv at *
 refine z0A ?_
 refine z0H rfl (k53 _) ?_
 refine z0A ?_
 refine z0H rfl (k58 _) ?_
 refine z0A ?_
 exact fr
inductive Nd where
 | mk (num:Nat) (op:Int) (s:Bt) (l:List Nd)
def Nd.num:Nd→Nat | .mk n _ _ _=>n
def zAd (l:List AV):AV:=if l.isEmpty then .nilslice else .list 1 l
mutual
def z1j:Nd→AV
 | .mk n op s l=>.cptr [.int .i64 n,.int .i64 op,.str s,zAd (z4r l)]
def z4r:List Nd→List AV
 | []=>[]
 | x::l=>z1j x::z4r l
end
theorem z2x:∀ l,z4r l=l.map z1j
 | []=>rfl
 | x::l=>by simp only [z4r,z2x l,lA6]
theorem z5K (n:Nd):(z1j n).cells=[z1j n]:=by
 obtain ⟨a,b,c,d⟩:=n
 rw [z1j];rfl
theorem zLN (l:List AV):Sl 1 (zAd l) l:=by
 unfold zAd
 cases l with
 | nil=>exact .nil
 | cons a l=>exact .list _
inductive GoodN (D:Nat→Bt→Bool):Nd→Prop
 | mk (n:Nat) (op:Int) (s:Bt) (l:List Nd) (h1:∀ w,D n w=z2C op s (l.map fun m=>D m.num) w) (h2:Form op l.length) (h3:l.length≤1000000) (h4:∀ m∈l,GoodN D m):GoodN D (.mk n op s l)
theorem zJG {D:Nat→Bt→Bool} {aid mid:Nat} {n:Nd} (h:GoodN D n):zGx D aid mid (z1j n) (D n.num):=by
 induction h with
 | mk n op s l h1 h2 h3 h4 ih =>
  rw [z1j]
  refine a113 (hask:=fun H w hw ha=>?_)
  rw [h1 w,z2x]
  refine a194 (vs:=l.map z1j) (zLN _) (fun v hv=>?_) ⟨by simp,fun i v f hv hf=>?_⟩ (by simpa using h3) (by simpa using h2) hw ha
  ·obtain ⟨m,_,rfl⟩:=lA4.1 hv
   exact z5K m
  ·rw [lAM] at hv hf
   cases hm:l[i]? with
   | none=>rw [hm] at hv;cases hv
   | some m =>
    rw [hm] at hv hf
    injection hv with hv;injection hf with hf
    subst hv;subst hf
    exact ih m (lAF hm)
mutual
def z7s (sy:Bt→Bt) (n:Nat):Ex→Nd
 | .mk op s _ l=>.mk n op (if op=0 then sy s else []) (z5b sy (n+1) l)
def z5b (sy:Bt→Bt) (n:Nat):List Ex→List Nd
 | []=>[]
 | x::l=>z7s sy n x::z5b sy (n+x.size) l
end
theorem zEm (sy:Bt→Bt) (x:Ex):∀ (l:List Ex) (n:Nat),z5b sy n (l++[x])=z5b sy n l++[z7s sy (n+z0V l) x]
 | [],n=>by simp [z5b,z0V]
 | y::l,n=>by
  simp only [lB5,z5b,zEm sy x l,z0V]
  rw [lBK]
theorem zHc (sy:Bt→Bt):∀ (l:List Ex) (n:Nat),(z5b sy n l).length=l.length
 | [],n=>rfl
 | y::l,n=>by simp only [z5b,lBE,zHc sy l]
def zZa (_:AV):Prop:=True
def CB (mid n:Nat):Blk:=.cells [.map mid,.int .i64 n]
theorem z0J {H:z0B} {i j:Nat} {b c:Blk} (h:H[j]? =some b) (hn:i≠j):(H.set i c)[j]? =some b:=by rw [lCE hn];exact h
section box
variable {P:Program} {H:z0B} {al:AL} {K:KL} {Qp:AL→AV→z0B→Prop} {os:List IOper} {d:Nat} {x y:Arg}
theorem z1E (v:AV) (hx:evL al x=v) (hs:v.shaped=true) (h:VV P os ((d,.ptr H.length 0)::al) (H++[.cells v.cells]) K Qp):VV P (⟨some d,.i (.m .box),[x],none,none⟩::os) al H K Qp:=by
 have:=zAD (P:=P) (H:=H) (G:=[]) (al:=al) (K:=K) (Qp:=Qp) (os:=os) (d:=d) (n:=0) (G':=[.cells v.cells]) v hx hs rfl rfl h
 rwa [lAK] at this
theorem zDs:∀ {l:List Ex} {x:Ex} {t:Bt},x∈l→t∈z1V x→t∈z3G l
 | y::l,x,t,h,ht=>by
  simp only [z3G,lBF]
  rcases lAT.1 h with rfl | h
  ·exact .inl ht
  ·exact .inr (zDs h ht)
def z1D (lo:Nat) (X:z0B) (kv:AV) (l:List AV):Prop:=(l=[]∧kv=.nilslice)∨∃ kb,kv=.sl kb 0 l.length 1∧X[kb]? =some (.cells l)∧lo≤kb∧l≠[]
theorem z1D.mono {lo:Nat} {X Y:z0B} {kv:AV} {l:List AV} (h:z1D lo X kv l) (hk:∀ (j:Nat) (b:Blk),lo≤j→X[j]? =some b→Y[j]? =some b):z1D lo Y kv l:=by
 rcases h with h | ⟨kb,h1,h2,h3⟩
 ·exact .inl h
 ·exact .inr ⟨kb,h1,hk _ _ h3.1 h2,h3⟩
theorem z1D.shape {lo:Nat} {X:z0B} {kv:AV} {l:List AV} (h:z1D lo X kv l):kv=.nilslice∨∃ kb k,kv=.sl kb 0 k 1:=by
 rcases h with ⟨_,h⟩ | ⟨kb,h,_⟩
 ·exact .inl h
 ·exact .inr ⟨kb,_,h⟩
theorem zRC {id:Nat} {kv a b c e:AV} (hs:kv=.nilslice∨∃ kb k,kv=.sl kb 0 k 1) (hx:evL al x=.ptr id (0+3)) (hy:evL al y=kv) (hg:H[id]? =some (.cells [a,b,c,e])) (h:VV P os al (H.set id (.cells [a,b,c,kv])) K Qp) :
  VV P (⟨none,.i (.m (.store 1)),[x,y],none,none⟩::os) al H K Qp:=by
 rcases hs with rfl | ⟨kb,k,rfl⟩
 ·exact z0k .nilslice hx hy hg rfl rfl rfl h
 ·exact z0k (.sl kb 0 k 1) hx hy hg rfl rfl rfl h
theorem zAF {lo bytes:Nat} {kv e:AV} {l:List AV} (hx:evL al x=kv) (ho:z1D lo H kv l) (hy:evL al y=.sl H.length 0 1 1) (hsc:AV.scalar e=true) (hall:l.all AV.scalar=true) (hb:(l.length+1)*bytes≤140737488355328) (hlo:lo≤H.length)
  (h:∀ kv' H',z1D lo H' kv' (l++[e])→AV.scalar kv'=true→(∀ (j:Nat) (b:Blk),(∀ k,kv≠.sl j 0 k 1)→H[j]? =some b→H'[j]? =some b)→H.length≤H'.length→VV P os ((d,kv')::al) H' K Qp) :
  VV P (⟨some d,.i (.m (.append 1 bytes)),[x,y],none,none⟩::os) al (H++[.cells [e]]) K Qp:=by
 have hys:z1m 1 (H++[.cells [e]]) (evL al y)=some (1,[e]):=by rw [hy];exact z1y (by simp)
 rcases ho with ⟨rfl,rfl⟩ | ⟨id,rfl,h2,h3,_⟩
 ·refine z3z hx hys (by omega) (by simp [hsc]) (by simpa using hb) (h _ _ (.inr ⟨_,rfl,z0K,by simp;omega,by simp⟩) rfl (fun j b _ hj=>z0G (z0G hj)) (by simp))
 ·have hid:=(lAA.1 h2).1
  refine z4L hx (z0G h2) (by omega) hys (by simp [hsc]) (by simpa using hb) ?_
  have hl:((l.drop 0).take (l.length*1)++[e])=l++[e]:=by rw [lBL,lCA,lAW]
  rw [hl]
  have hln:((H++[.cells [e]]:z0B).set id .dead).length=(H++[.cells [e]]:z0B).length:=by simp
  rw [←hln]
  refine h _ _ (.inr ⟨_,by simp,z0K,by rw [hln];simp;omega,by simp⟩) rfl (fun j b hn hj=>?_) (by simp;omega)
  have hne:id≠j:=fun e=>hn l.length (by rw [e])
  exact z0G (z0J (z0G hj) hne)
end box
theorem a61 {aid mid:Nat} {sv:AV} {sg:List Bt} (hsv:Sl 1 sv (sg.map .str)) (hsg:zCX sg) (hsn:sg.length≤256):∀ (e:Ex) (n:Nat) (H:z0B),H[aid]? =some (CB mid n)→n+e.size≤1000000→okE e→(∀ t∈z1V e,t∈sg) →
  z0D PP 48 [.ptr aid 0,enc e,sv] H (zNU (fun v H'=>v=z1j (z7s (fun t=>[mu sg t]) n e)∧Mod H aid (CB mid (n+e.size)) H') (fun _ _=>False))
 | .mk op s nl l,n,H,ha,hn,hok,hsy=>by
  have hal:=(lAA.1 ha).1
  refine z0D.sealed (n:=H.length) ?_
  refine is48.c3 z0R mixed rfl ?_
  rw [z0a,lAK]
  refine z1e (z0c ?_)
  refine z1E (.agg [.int .i64 op,.str s,lst nl l]) rfl rfl ?_
  have x4:(H++[Blk.cells [.int .i64 op,.str s,lst nl l]])[H.length]? =some (.cells [.int .i64 op,.str s,lst nl l]):=z0K
  have xm:=(Mod.refl ha).app [Blk.cells [.int .i64 op,.str s,lst nl l]]
  have xl:(H++[Blk.cells [.int .i64 op,.str s,lst nl l]]:z0B).length=H.length+1:=by simp
  show VV _ _ _ (H++[Blk.cells [.int .i64 op,.str s,lst nl l]]) _ _
  generalize (H++[Blk.cells [.int .i64 op,.str s,lst nl l]]:z0B)=X at *
  have xa:=xm.get
  unfold CB at xa
  refine z0A ?_
  refine z1f zZa ?_
  refine z0A ?_
  refine z1w (out:=[.int .i64 n,.int .i64 op,.str [],.nilslice]) rfl rfl ?_
  refine z6x ?_
  refine zKc rfl rfl (lAL _) ?_
  refine z1E (.agg [.int .i64 n,.int .i64 op,.str [],.nilslice]) rfl rfl ?_
  refine z2K z2v ?_
  have y7:(X++[Blk.cells [.int .i64 n,.int .i64 op,.str [],.nilslice]])[H.length+1]? =some (.cells [.int .i64 n,.int .i64 op,.str [],.nilslice]):=by
   rw [←xl];exact z0K
  have y4:=z0G (G:=[Blk.cells [.int .i64 n,.int .i64 op,.str [],.nilslice]]) x4
  have ym:=xm.app [Blk.cells [.int .i64 n,.int .i64 op,.str [],.nilslice]]
  have yl:(X++[Blk.cells [.int .i64 n,.int .i64 op,.str [],.nilslice]]:z0B).length=H.length+2:=by simp [xl]
  rw [xl]
  show VX _ _ _ _ _ _ _ _ _ (X++[Blk.cells [.int .i64 n,.int .i64 op,.str [],.nilslice]])
  generalize (X++[Blk.cells [.int .i64 n,.int .i64 op,.str [],.nilslice]]:z0B)=Y at *
  have ya:=ym.get
  unfold CB at ya
  refine z0A ?_
  refine z0k (.int .i64 (n+1:Nat)) rfl rfl ya rfl rfl rfl ?_
  have hne4:aid≠H.length:=by omega
  have hne7:aid≠H.length+1:=by omega
  have z7:=z0J (c:=CB mid (n+1)) y7 hne7
  have z4:=z0J (c:=CB mid (n+1)) y4 hne4
  have zm:=ym.put (x:=CB mid (n+1))
  have zl:(Y.set aid (CB mid (n+1))).length=H.length+2:=by simp [yl]
  show VV _ _ _ (Y.set aid (CB mid (n+1))) _ _
  generalize Y.set aid (CB mid (n+1))=Z at *
  clear ym y7 y4 ya yl Y xm x4 xl xa X
  refine z0A ?_
  refine zKm (fun al' H'=>∃ tl,al'=(0,.ptr aid 0)::(2,sv)::(4,.ptr H.length 0)::(7,.ptr (H.length+1) 0)::tl∧H'[H.length+1]? =some (.cells [.int .i64 n,.int .i64 op,.str (if op=0 then [mu sg s] else []),.nilslice])∧H'[H.length]? =some (.cells [.int .i64 op,.str s,lst nl l])∧Mod H aid (CB mid (n+1)) H'∧H.length+2≤H'.length) ?_ ?_
  ·cases h0:(op==0)
   ·have:op≠0:=by simpa using h0
    rw [if_neg this]
    refine z0A ?_
    exact ⟨_,rfl,z7,z4,zm,by omega⟩
   ·obtain rfl:op=0:=by simpa using h0
    have hs:s∈sg:=hsy s (by simp [z1V])
    rw [if_pos rfl]
    refine z0A ?_
    refine z0Z (out:=[.str s]) rfl ?_
    have k53:=a53 (lv:=sv) (wv:=.list 1 [.str s]) (w:=[s]) hsv (.list [.str s]) hsg (by omega) (by simp) (fun t ht=>by simp only [lA1] at ht;subst ht;exact hs)
    refine z0L (R:=z1A ((Z++[.cells [.str s]]:z0B).set Z.length .dead) (.tuple [.list 1 (ixs sg [s]),.bool true])) rfl (z0D.sealArgs (id:=Z.length) (cs:=[.str s]) (args':=[sv,.list 1 [.str s]]) z0K rfl (fun i=>?_) (k53 _)) ?_ ?_
    ·match i with
     | 0=>exact .refl _
     | 1=>exact .sl 0 1 1 [.str s] rfl (fun x hx=>by simp only [lA1] at hx;subst hx;rfl) rfl (by simp)
     | i+2=>exact .refl _
    rotate_left
    ·rintro u V' ⟨hu,_⟩
     cases hu
    rintro u V ⟨hu,rfl⟩
    cases hu
    have w7:=z0J (i:=Z.length) (c:=.dead) (z0G (G:=[Blk.cells [.str s]]) z7) (by omega)
    have w4:=z0J (i:=Z.length) (c:=.dead) (z0G (G:=[Blk.cells [.str s]]) z4) (by omega)
    have wm:=(zm.app [Blk.cells [.str s]]).own (id:=Z.length) (x:=.dead) (by omega) (by omega)
    have wl:((Z++[Blk.cells [.str s]]:z0B).set Z.length .dead).length=H.length+3:=by simp [zl]
    generalize (Z++[Blk.cells [.str s]]:z0B).set Z.length .dead=W at *
    have hi:=lDJ.2 hs
    have k58:=a58 (iv:=.list 1 (ixs sg [s])) (l:=[sg.idxOf s]) (.list (ixs sg [s])) (fun m hm=>by simp only [lA1] at hm;subst hm;omega) (by simp)
    refine z0A ?_
    refine z0H rfl (k58 _) ?_
    refine z0A ?_
    refine z0k (.str [mu sg s]) rfl rfl w7 rfl rfl rfl ?_
    refine z0A ?_
    refine ⟨_,rfl,?_,z0J w4 (by omega),wm.own (by omega) (by omega),by simp;omega⟩
    rw [lAU (lAA.1 w7).1];rfl
  rintro al' V ⟨tl,rfl,v7,v4,vm,vl⟩
  clear z7 z4 zm zl Z
  generalize hsx:(if op=0 then [mu sg s] else [])=sx at *
  have hsl:=z4h nl l
  have hlen:(l.map enc).length=l.length:=lAE _
  simp only [Ex.size] at hn
  have hll:l.length≤1000000:=by have:=z1H l;omega
  refine z0A ?_
  refine z0F l.length (fun i al H'=>∃ kv,al=[(0,.ptr aid 0),(2,sv),(7,.ptr (H.length+1) 0),(44,lst nl l),(45,.int .i64 l.length),(46,.int .i64 i)]∧H'[H.length+1]? =some (.cells [.int .i64 n,.int .i64 op,.str sx,kv])∧z1D (H.length+2) H' kv (z4r (z5b (fun t=>[mu sg t]) (n+1) (l.take i)))∧Mod H aid (CB mid (n+1+z0V (l.take i))) H'∧H.length+2≤H'.length) ⟨_,by rw [hlen];rfl,v7,.inl ⟨rfl,rfl⟩,vm,vl⟩ ?_
  clear v7 v4 vm vl V
  rintro i _ V hi ⟨kv,rfl,v7,vk,vm,vl⟩
  have e1:decide ((i:Int)<(l.length:Int))=decide (i<l.length):=by simp only [lAP];omega
  refine z0A ?_
  rw [e1]
  cases hc:decide (i<l.length)
  ·simp only [lAC] at hc
   have:l.take i=l:=lAS (by omega)
   rw [this] at vk vm
   refine z0A ?_
   refine z0Y rfl (.inl ?_)
   have hres:z1j (z7s (fun t=>[mu sg t]) n (.mk op s nl l))=.cptr [.int .i64 n,.int .i64 op,.str sx,zAd (z4r (z5b (fun t=>[mu sg t]) (n+1) l))]:=by
    rw [z7s,z1j,←hsx]
   have hsz:n+(Ex.mk op s nl l).size=n+1+z0V l:=by simp only [Ex.size];omega
   rw [hres,hsz]
   have hk1:∀ x∈z4r (z5b (fun t=>[mu sg t]) (n+1) l),x.cells=[x]:=fun x hx=>by
    rw [z2x] at hx
    obtain ⟨m,_,rfl⟩:=lA4.1 hx
    exact z5K m
   generalize z4r (z5b (fun t=>[mu sg t]) (n+1) l)=ks at *
   have hc4:V[H.length+1]? =some (.cells [.int .i64 n,.int .i64 op,.str sx,kv]):=v7
   have dm:=vm.own (id:=H.length+1) (x:=.dead) (by omega) (by omega)
   rcases vk with ⟨rfl,rfl⟩ | ⟨kb,rfl,k2,k3,k4⟩
   ·exact ⟨_,_,V.set (H.length+1) .dead,rfl,.step (H.length+1) _ (by omega) hc4 (.base _ _ (.ptr 0 (by simp))) (.done _ _),rfl,dm⟩
   ·have k2':=z0J (i:=H.length+1) (c:=.dead) k2 (by omega)
    have hkv:zAd ks=.list 1 ks:=by
     unfold zAd
     cases ks with
     | nil=>exact absurd rfl k4
     | cons a b=>rfl
    rw [hkv]
    refine ⟨_,_,(V.set (H.length+1) .dead).set kb .dead,rfl,.step (H.length+1) _ (by omega) hc4 (.base _ _ (.ptr 0 (by simp))) (.step kb ks (by omega) k2' (.cptr [.int .i64 n,.int .i64 op,.str sx,.sl kb 0 ks.length 1] [.int .i64 n,.int .i64 op,.str sx,.list 1 ks] rfl fun i=>?_) (.done _ _)),rfl,dm.own (by omega) (by omega)⟩
    match i with
    | 0=>exact .refl _
    | 1=>exact .refl _
    | 2=>exact .refl _
    | 3=>exact .base _ _ (.sl 0 ks.length 1 ks rfl (fun x hx=>by rw [hk1 x hx];rfl) (by rw [z1B hk1,lBL,lCA,lAW]) (by omega))
    | i+4=>exact .refl _
  simp only [lAD] at hc
  obtain ⟨c,hci⟩:=z0M (l:=l) (i:=i) hc
  have hcm:=lAF hci
  have hsz:=z4j hci
  have hszl:=z6N l (i+1)
  have hcw:=zDk hcm
  have htk:l.take (i+1)=l.take i++[c]:=by rw [lBA,hci];rfl
  have hnk:z4r (z5b (fun t=>[mu sg t]) (n+1) (l.take (i+1)))=z4r (z5b (fun t=>[mu sg t]) (n+1) (l.take i))++[z1j (z7s (fun t=>[mu sg t]) (n+1+z0V (l.take i)) c)]:=by
   rw [htk,zEm,z2x,z2x,lBP];rfl
  have ih:=fun (H':z0B) h=>a61 (aid:=aid) (mid:=mid) hsv hsg hsn c (n+1+z0V (l.take i)) H' h (by omega) (by unfold okE at hok ⊢;simp only [Ex.w] at hok;omega) (fun t ht=>hsy t (by
   simp only [z1V,lBF]
   exact .inr (zDs hcm ht)))
  have hlk:(z4r (z5b (fun t=>[mu sg t]) (n+1) (l.take i))).length=i:=by
   rw [z2x,lAE,zHc];simp;omega
  have hks:(z4r (z5b (fun t=>[mu sg t]) (n+1) (l.take i))).all AV.scalar=true:=by
   rw [z2x,List.all_map,lAX]
   rintro ⟨_,_,_,_⟩ _
   simp only [Function.comp,z1j];rfl
  obtain ⟨ncs,hncs⟩:∃ cs,z1j (z7s (fun t=>[mu sg t]) (n+1+z0V (l.take i)) c)=.cptr cs:=by
   obtain ⟨_,_,_,_⟩:=c
   rw [z7s,z1j];exact ⟨_,rfl⟩
  rw [hncs] at hnk ih
  have hu:(l.map enc)[i]? =some (enc c):=by rw [lAM,hci];rfl
  obtain ⟨ca,cb,cc,hec⟩:=zFV c
  have hcs:([ca,cb,cc]:List AV).all AV.scalar=true:=by
   obtain ⟨_,_,_,_⟩:=c
   rw [z0a] at hec
   injection hec with hec
   injection hec with e1 hec;injection hec with e2 hec;injection hec with e3 _
   subst e1;subst e2;subst e3
   exact z7R
  rw [hec] at ih hu
  generalize z4r (z5b (fun t=>[mu sg t]) (n+1) (l.take i))=ks at *
  refine z0A ?_
  refine z1a rfl rfl rfl rfl rfl hcs ?_
  have y11:(V++[Blk.cells [ca,cb,cc]])[V.length]? =some (.cells [ca,cb,cc]):=z0K
  have y7:=z0G (G:=[Blk.cells [ca,cb,cc]]) v7
  have ym:=vm.app [Blk.cells [ca,cb,cc]]
  have yk:z1D (H.length+2) (V++[Blk.cells [ca,cb,cc]]) kv ks:=vk.mono fun j b _ h=>z0G h
  have yl:(V++[Blk.cells [ca,cb,cc]]:z0B).length=V.length+1:=by simp
  have hkv11:∀ k,kv≠.sl V.length 0 k 1:=by
   intro k e
   rcases vk with ⟨_,h⟩ | ⟨kb,h,h2,_⟩
   ·rw [e] at h;cases h
   ·rw [e] at h
    injection h with h
    have:=(lAA.1 h2).1
    omega
  have hkvo:∀ j,j<H.length+2→∀ k,kv≠.sl j 0 k 1:=by
   intro j hj k e
   rcases vk with ⟨_,h⟩ | ⟨kb,h,_,h2,_⟩
   ·rw [e] at h;cases h
   ·rw [e] at h
    injection h with h
    omega
  generalize hb11:V.length=b11 at *
  generalize (V++[Blk.cells [ca,cb,cc]]:z0B)=Y at *
  have hb:aid≠b11:=by omega
  refine z0A ?_
  refine z3k (z2r [H.length+1,b11]) ?_
  refine z0A ?_
  refine zDm rfl rfl (lAL _) ?_
  refine z0L rfl (ih Y ym.get) ?_ ?_
  rotate_left
  ·rintro u V' (⟨v,hu,_⟩ | ⟨p,_,hf⟩)
   ·cases hu
   ·exact hf
  rintro u W (⟨v,hu,hv,hm⟩ | ⟨p,hu,_⟩)
  rotate_left
  ·cases hu
  rw [hv] at hu
  cases hu
  refine z1b (z1K fun j hj b hb'=>?_) ?_
  ·simp only [lAT,lA5,or_false] at hj
   rcases hj with rfl | rfl
   ·exact hm.old _ _ (by omega) hb'
   ·exact hm.old _ _ (by omega) hb'
  have w7:=hm.old _ _ (by omega) y7
  have w11:=hm.old _ _ (by omega) y11
  have wm:=ym.trans hm
  have wk:=yk.mono (Y:=W) fun j b hj h=>hm.old j b (by omega) h
  have wl:=hm.len
  rw [lBK,←hsz] at wm
  refine z0A ?_
  refine zDm rfl rfl wl ?_
  refine z0Z (out:=[.cptr ncs]) rfl ?_
  refine z1b z2v ?_
  refine zDm rfl rfl (by simp;omega) ?_
  refine zAF (kv:=kv) rfl wk rfl rfl hks (by omega) (by omega) ?_
  intro kv' H' hko hksc hpres hlen'
  have u7:=hpres _ _ (hkvo _ (by omega)) w7
  have um:Mod H aid (CB mid (n+1+z0V (l.take (i+1)))) H':=⟨hpres _ _ (hkvo _ (by omega)) wm.get,fun id x hne hx=>hpres _ _ (hkvo _ (by have:=(lAA.1 hx).1;omega)) (wm.old id x hne hx),by have:=wm.len;omega⟩
  rw [←hnk] at hko
  refine z1b (z1K fun j hj b hb'=>?_) ?_
  ·simp only [lAT,lA5,or_false] at hj
   have hjl:j<W.length:=by
    have h7:=(lAA.1 w7).1
    have h11:=(lAA.1 w11).1
    rcases hj with rfl | rfl<;>omega
   rw [lAN hjl] at hb'
   refine hpres _ _ ?_ hb'
   rcases hj with rfl | rfl
   ·exact hkvo _ (by omega)
   ·exact hkv11
  refine z0A ?_
  refine zQN rfl rfl rfl (by omega) ?_
  refine zRC hko.shape rfl rfl u7 ?_
  refine z3y ?_
  refine z0A ?_
  refine ⟨hc,kv',rfl,?_,hko.mono fun j b hj h=>z0J h (by omega),um.own (by omega) (by omega),by simp;omega⟩
  rw [lAU (lAA.1 u7).1]
termination_by e=>e.w
decreasing_by
 simp only [Ex.w];omega
section
variable {α:Type} [BEq α]
mutual
def z5c (sy:Bt→List α):Ex→List α→Bool
 | .mk op s _ l,w=>z2C op (if op=0 then sy s else []) (zKK sy l) w
def zKK (sy:Bt→List α):List Ex→List (List α→Bool)
 | []=>[]
 | x::l=>z5c sy x::zKK sy l
end
theorem zAx (sy:Bt→List α):∀ l,zKK sy l=l.map (z5c sy)
 | []=>rfl
 | x::l=>by simp only [zKK,zAx sy l,lA6]
end
mutual
def zQe:Nd→Bt→Bool
 | .mk _ op s l,w=>z2C op s (zKJ l) w
def zKJ:List Nd→List (Bt→Bool)
 | []=>[]
 | x::l=>zQe x::zKJ l
end
theorem zFY:∀ l,zKJ l=l.map zQe
 | []=>rfl
 | x::l=>by simp only [zKJ,zFY l,lA6]
mutual
theorem zDT (sy:Bt→Bt):∀ (e:Ex) (n:Nat),zQe (z7s sy n e)=z5c sy e
 | .mk op s nl l,n=>by
  funext w
  rw [z7s]
  simp only [zQe,z5c]
  rw [zFX sy l (n+1)]
theorem zFX (sy:Bt→Bt):∀ (l:List Ex) (n:Nat),zKJ (z5b sy n l)=zKK sy l
 | [],n=>rfl
 | x::l,n=>by simp only [z5b,zKJ,zKK,zDT sy x n,zFX sy l]
end
mutual
def flN:Nd→List Nd
 | .mk n op s l=>.mk n op s l::z9K l
def z9K:List Nd→List Nd
 | []=>[]
 | x::l=>flN x++z9K l
end
mutual
theorem zPk (sy:Bt→Bt):∀ (e:Ex) (n:Nat),(flN (z7s sy n e)).map Nd.num=List.range' n e.size
 | .mk op s nl l,n=>by
  rw [z7s]
  simp only [flN,lA6,Ex.size,Nd.num]
  rw [zAp sy l (n+1),Nat.add_comm 1,List.range'_succ]
theorem zAp (sy:Bt→Bt):∀ (l:List Ex) (n:Nat),(z9K (z5b sy n l)).map Nd.num=List.range' n (z0V l)
 | [],n=>rfl
 | x::l,n=>by
  simp only [z5b,z9K,lBP,z0V]
  rw [zPk sy x n,zAp sy l (n+x.size),←List.range'_append_1]
end
theorem zDN (m:Nd):m∈flN m:=by
 obtain ⟨a,b,c,d⟩:=m
 rw [flN];exact lB2
theorem z9c:∀ {l:List Nd} {x y:Nd},x∈l→y∈flN x→y∈z9K l
 | z::l,x,y,h,hy=>by
  rw [z9K,lBF]
  rcases lAT.1 h with rfl | h
  ·exact .inl hy
  ·exact .inr (z9c h hy)
mutual
theorem zMa:∀ {m:Nd} {x y:Nd},x∈flN m→y∈flN x→y∈flN m
 | .mk n op s l,x,y,h,hy=>by
  rw [flN] at h ⊢
  rcases lAT.1 h with rfl | h
  ·rw [flN] at hy;exact hy
  ·exact lA8 _ (z8k h hy)
theorem z8k:∀ {l:List Nd} {x y:Nd},x∈z9K l→y∈flN x→y∈z9K l
 | z::l,x,y,h,hy=>by
  rw [z9K,lBF] at h ⊢
  rcases h with h | h
  ·exact .inl (zMa h hy)
  ·exact .inr (z8k h hy)
end
def DT (T:List Nd) (k:Nat) (w:Bt):Bool:=match (z9K T).find? (fun m=>m.num==k) with
 | some m=>zQe m w
 | none=>false
theorem zHz:∀ {L:List Nd} {m:Nd},m∈L→(L.map Nd.num).Nodup→L.find? (fun x=>x.num==m.num)=some m
 | y::L,m,h,hn=>by
  rw [lA6,List.nodup_cons] at hn
  rcases lAT.1 h with rfl | h
  ·simp
  ·have:(y.num==m.num)=false:=by
    simp only [beq_eq_false_iff_ne]
    intro e
    exact hn.1 (e ▸ lDM h)
   rw [List.find?_cons_of_neg (by simp [this])]
   exact zHz h hn.2
def Nd.form:Nd→Prop
 | .mk _ op _ l=>Form op l.length∧l.length≤1000000
theorem zRz {T:List Nd} (hn:((z9K T).map Nd.num).Nodup) (hf:∀ m∈z9K T,m.form):∀ m∈z9K T,GoodN (DT T) m∧DT T m.num=zQe m:=by
 have e:∀ m∈z9K T,DT T m.num=zQe m:=fun m hm=>by
  funext w
  unfold DT
  rw [zHz hm hn]
 have g:∀ (m:Nd),m∈z9K T→GoodN (DT T) m:=by
  intro m
  induction m using Nd.rec (motive_2:=fun l=>∀ m∈l,m∈z9K T→GoodN (DT T) m) with
  | mk n op s l ih =>
   intro hm
   have hform:=hf _ hm
   have hk:∀ m∈l,m∈z9K T:=fun m h=>z8k hm (by rw [flN];exact lA8 _ (z9c h (zDN m)))
   refine .mk n op s l (fun w=>?_) hform.1 hform.2 fun m h=>ih m h (hk m h)
   have h1:=congrFun (e _ hm) w
   show DT T n w=_
   rw [show DT T n w=DT T (Nd.mk n op s l).num w from rfl,h1]
   simp only [zQe,zFY]
   congr 1
   exact lD2 fun m h=>(e m (hk m h)).symm
  | nil=>rename_i h _;cases h
  | cons x l ih1 ih2 =>
   rename_i m h hm
   rcases lAT.1 h with rfl | h
   ·exact ih1 hm
   ·exact ih2 m h hm
 exact fun m hm=>⟨g m hm,e m hm⟩
theorem zLG {P:Program} {H:z0B} {al:AL} {K:KL} {Qp:AL→AV→z0B→Prop} {os:List IOper} {d:Nat} (h:VV P os ((d,.map H.length)::al) (H++[.map [] 0]) K Qp):VV P (⟨some d,.i (.n (.makeMap false)),[],none,none⟩::os) al H K Qp:=by
 refine z8X ?_ h
 show some (AV.map H.length,put H H.length (.map [] 0))=_
 unfold put;rw [if_neg (by omega)]
theorem a59 (H:z0B):z0D PP 46 [] H (fun r H'=>r=.ret (.ptr (H.length+1) 0)∧H'=H++[.map [] 0,CB H.length 0]):=by
 refine Is.c0 z0R mixed is46 rfl ?_
 rw [lAK]
 refine z0A ?_
 refine zLG ?_
 refine z1w (out:=[.map H.length,.int .i64 0]) rfl rfl ?_
 refine z1E (.agg [.map H.length,.int .i64 0]) rfl rfl ?_
 refine z0A ?_
 exact z0Y rfl ⟨by simp;rfl,by simp [CB,AV.cells]⟩
section
variable {D:Nat→Bt→Bool} {aid mid:Nat} {H:z0B}
theorem a62 {v:AV} {f:Bt→Bool} {w:Bt} {b1 b2:Nat} (hf:zGx D aid mid v f) (hw:w.length≤1000000) (ha:AskAt D aid mid H) (h1:H[b1]? =some (.cells [.ptr aid 0])) (h2:H[b2]? =some (.cells [v])) (hv:v.cells=[v]) :
  z0D PP 49 [.str w,.ptr b1 0,.ptr b2 0] H (z1r D mid H (z2u f w)):=by
 refine zYK.c3 z0R mixed rfl ?_
 rw [lAK]
 refine z0A ?_
 refine z0L rfl (a63 hf hw ha) ?_ ?_
 rotate_left
 ·rintro u V' ⟨hu,_⟩
  cases hu
 rintro u V' ⟨hu,hin⟩
 cases hu
 refine z0A ?_
 exact z0Y rfl ⟨rfl,hin⟩
theorem a64 {v:AV} {f:Bt→Bool} {w:Bt} {b1 b2:Nat} (hf:zGx D aid mid v f) (hw:w.length≤1000000) (ha:AskAt D aid mid H) (h1:H[b1]? =some (.cells [.ptr aid 0])) (h2:H[b2]? =some (.cells [v])) (hv:v.cells=[v]) :
  z0D PP 51 [.str w,.ptr b1 0,.ptr b2 0] H (z1r D mid H (z0g f w)):=by
 refine zYJ.c3 z0R mixed rfl ?_
 rw [lAK]
 refine z0A ?_
 refine z0L rfl (a65 hf hw ha) ?_ ?_
 rotate_left
 ·rintro u V' ⟨hu,_⟩
  cases hu
 rintro u V' ⟨hu,hin⟩
 cases hu
 refine z0A ?_
 exact z0Y rfl ⟨rfl,hin⟩
end
theorem a57 {lv wv:AV} {l w:List Bt} {b:Nat} {H:z0B} (hb:H[b]? =some (.cells [lv])) (hlv:lv.cells=[lv]) (hl:Sl 1 lv (l.map .str)) (hw:Sl 1 wv (w.map .str)) (hs:zCX l) (hn:l.length≤256) (hwn:w.length≤1000000) (hin:∀ t∈w,t∈l) :
  z0D PP 43 [wv,.ptr b 0] H (z1A H (.str (w.map (mu l)))):=by
 refine z0D.gives (zXc.c2 z0R mixed rfl ?_)
 rw [lAK]
 have e:ixs l w=(w.map fun t=>l.idxOf t).map z0w:=by rw [lB0];rfl
 have k53:=a53 hl hw hs (by omega) hwn hin
 rw [e] at k53
 have hsl:Sl 1 (.list 1 ((w.map fun t=>l.idxOf t).map z0w)) ((w.map fun t=>l.idxOf t).map z0w):=.list _
 have k58:=a58 hsl (fun n hn'=>by
  obtain ⟨t,ht,rfl⟩:=lA4.1 hn'
  have:=lDJ.2 (hin t ht)
  omega) (by rw [lAE];exact hwn)
 have em:(w.map fun t=>l.idxOf t).map UInt8.ofNat=w.map (mu l):=by rw [lB0];rfl
 rw [em] at k58
 generalize AV.list 1 ((w.map fun t=>l.idxOf t).map z0w)=iv at *
 refine z0A ?_
 refine z0H rfl (k53 _) ?_
 refine z0A ?_
 refine z0H rfl (k58 _) ?_
 refine z0A ?_
 exact z0Y rfl (z0s (z0N.str _))
end Go.Ab
