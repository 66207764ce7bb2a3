/- Part 40 of the proof. -/
import Derived.Lib.IndexLaws
import Derived.Test.YtgpnlpieipoogaaGreatDoorA31
import Derived.Test.YtgpnlpieipoogaaGreatDoorA39
set_option linter.unusedVariables false
set_option linter.unusedSimpArgs false
namespace Go.Ab
open Go
def symAt (s:Bt):Option (Bt × Nat) :=
 match s with
 | []=>none
 | c::t=>if c==60 then (if decide (Lib.indexByte (c::t) 62+1<4)||decide (Lib.indexByte (c::t) 62+1>18) then none
   else some (((c::t).take (Lib.indexByte (c::t) 62).toNat).drop 1,(Lib.indexByte (c::t) 62).toNat+1)) else some ([c],1)
theorem symAt_cons (c:UInt8) (t:Bt):symAt (c::t)=if c==60 then (if decide (Lib.indexByte (c::t) 62+1<4)||decide (Lib.indexByte (c::t) 62+1>18) then none
   else some (((c::t).take (Lib.indexByte (c::t) 62).toNat).drop 1,(Lib.indexByte (c::t) 62).toNat+1)) else some ([c],1):=rfl
def wordF:Nat→Bt→List Bt→Option (List Bt)
 | 0,_,_=>none
 | n+1,s,acc=>if s==[] then some acc else match symAt s with
  | none=>none
  | some (y,k)=>if y.all isSig then wordF n (s.drop k) (acc++[y]) else none
def wordP (s:Bt):Option (List Bt):=if s==[] then none else wordF (s.length+1) s []
theorem index_lt {l:Bt} {c:UInt8} {n:Nat} (h:Lib.indexByte l c=n):n<l.length:=by
 have:=(Lib.indexByte_some h).1
 exact (List.getElem?_eq_some_iff.1 this).1
theorem index_cases (l:Bt) (c:UInt8):Lib.indexByte l c = -1∨∃ n:Nat,Lib.indexByte l c=n∧n<l.length:=by
 have:=Lib.indexByte_ge l c
 by_cases h:Lib.indexByte l c = -1
 ·exact .inl h
 ·obtain ⟨n,hn⟩:=Int.eq_ofNat_of_zero_le (show 0≤Lib.indexByte l c by omega)
  exact .inr ⟨n,hn,index_lt hn⟩
theorem symAt_pos {s y:Bt} {k:Nat} (h:symAt s=some (y,k)):1≤k∧k≤s.length∧y.length≤s.length:=by
 unfold symAt at h
 split at h
 ·cases h
 ·rename_i c t
  split at h
  ·split at h
   ·cases h
   ·injection h with h
    injection h with h1 h2
    subst h1;subst h2
    rcases index_cases (c::t) 62 with h | ⟨n,hn,hl⟩
    ·rw [h];simp
    ·rw [hn]
     refine ⟨by omega,by simp at hl ⊢;omega,?_⟩
     rw [List.length_drop,List.length_take];omega
  ·injection h with h
   injection h with h1 h2
   subst h1;subst h2
   simp
set_option maxRecDepth 100000
set_option maxHeartbeats 8000000
section steps
variable {P:Program} {H G:Heap} {al:AL} {K:KL} {Qp:AL→AV→Heap→Prop} {os:List IOper} {d:Nat} {x y z:Arg}
theorem st_s2b {s:Bt} (hx:evL al x=.str s) (h:VV P os ((d,.sl H.length 0 s.length 1)::al) (H++[.cells (bytesA s)]) K Qp):VV P (⟨some d,.i (.e .s2b),[x],none,none⟩::os) al H K Qp:=by
 refine st_i ?_ h
 simp only [isem,esem,evsL,hx]
 unfold put;rw [if_neg (by omega)]
end steps
theorem bytesA_get {s:Bt} {i:Nat} {c:UInt8} (h:s[i]? =some c):dpart none (bytesA s) i=some (.int .u8 c.toNat):=by
 unfold bytesA
 simp only [dpart,List.getElem?_map,h];rfl
theorem strs_get {l:List Bt} {i:Nat} {y:Bt} (h:l[i]? =some y):dpart none (l.map .str) i=some (.str y):=by
 simp only [dpart,List.getElem?_map,h];rfl
theorem OwnS.endsT {H G H':Heap} {v b:AV} {l:List Bt} (h:OwnS (H++G) H' v l) (hb:Plain b):Gives H (.tuple [encW ⟨true,l⟩,b]) (.ret (.tuple [v,b])) H':=by
 obtain ⟨h1,h2⟩:=h
 have hp:∀ w,Plain (.tuple [encW w,b]):=fun w=>Plain.tuple fun x hx=>by
  simp only [List.mem_cons,List.not_mem_nil,or_false] at hx
  rcases hx with rfl | rfl
  ·exact plain_W _
  ·exact hb
 rcases h2 with ⟨rfl,rfl⟩ | ⟨id,rfl,h3,h4,h5⟩
 ·exact z0M h1.base (hp ⟨true,[]⟩)
 ·have he:encW ⟨true,l⟩=.list 1 (l.map .str):=by
   unfold encW
   rw [if_neg]
   intro h
   simp only [Bool.and_eq_true,List.isEmpty_iff] at h
   exact h5 h.2
  obtain ⟨G',hG⟩:=h1.base.set (id:=id) (b:=.dead) (by rw [List.length_append] at h4;omega)
  refine ⟨_,G',rfl,.step id _ h3 (v':=.tuple [.list 1 (l.map .str),b]) (.tuple _ _ rfl fun i=>?_) (by rw [hG,he];exact .done _ _),hp _⟩
  match i with
  | 0=>exact sealStrs id l
  | 1=>exact .refl _
  | i+2=>exact .refl _
theorem sig_bad (c:UInt8):(decide ((c.toNat:Int)<33)||decide ((c.toNat:Int)>126)||((c.toNat:Int)==60)||((c.toNat:Int)==62)) = !isSig c:=by
 unfold isSig
 generalize (c.toNat:Int)=n
 rw [Bool.eq_iff_iff]
 simp only [Bool.or_eq_true,decide_eq_true_eq,beq_iff_eq,Bool.not_eq_true',Bool.and_eq_false_iff,decide_eq_false_iff_not,bne_eq_false_iff_eq]
 omega
theorem c116 (s:Bt) (hs:s.length≤1000000) (H:Heap):ACall PP 84 [.str s] H (Just H (.tuple [encW ⟨true,(wordP s).getD []⟩,.bool (wordP s).isSome])):=by
 refine ACall.gives (is84.c1 z0W mixed rfl ?_)
 unfold wordP
 refine z0D ?_
 cases hs0:(s==[])
 rotate_left
 ·simp only [if_true,Option.getD_none,Option.isSome_none]
  refine z0D ?_
  exact z1G rfl ((OwnS.nil (H:=H++[]) (.refl _)).endsT (Plain.bool _))
 simp only [Bool.false_eq_true,if_false]
 generalize hx:wordF (s.length+1) s []=xx
 refine z0D ?_
 refine z2G (fun m al H'=>∃ s' acc v,al=[(0,.str s'),(4,v)]∧OwnS (H++[]) H' v acc∧s'.length+1≤m∧m≤s.length+1∧acc.length+m≤s.length+1∧wordF m s' acc=xx) (s.length+1) ⟨s,[],_,rfl,.nil (.refl _),Nat.le_refl _,Nat.le_refl _,by simp,hx⟩ ?_
 clear hx
 rintro m _ H1 ⟨s',acc,v,rfl,hO,hm,hm2,hac,hx⟩
 cases m with
 | zero=>omega
 | succ m =>
 unfold wordF at hx
 refine z0D ?_
 cases hs1:(s'==[])
 rotate_left
 ·rw [hs1] at hx
  simp only [if_true] at hx
  subst hx
  refine z0D ?_
  exact z1G rfl (hO.endsT (Plain.bool _))
 rw [hs1] at hx
 simp only [Bool.false_eq_true,if_false] at hx
 match s',hs1,hm,hx with
 | c::t,_,hm,hx =>
 have hc0:(c::t)[0]? =some c:=rfl
 have e60:((c.toNat:Int)==60)=(c==60):=z3M c 60
 have hxx:∀ {y:Bt} {k:Nat},symAt (c::t)=some (y,k)→(if y.all isSig=true then wordF m ((c::t).drop k) (acc++[y]) else none)=xx:=fun h=>by rw [h] at hx;exact hx
 refine z0D ?_
 rw [e60]
 refine wi_cut (fun al' H'=>∃ y k v,symAt (c::t)=some (y,k)∧(al'=[(0,.str (c::t)),(4,v),(5,.int .i64 k)])∧OwnS (H++[]) H' v (acc++[y])) ?_ ?_
 ·cases h60:(c==60)
  ·refine z0D ?_
   refine z4Y (i:=1) rfl rfl (by simp) ?_
   refine z0V (out:=[.str [c]]) rfl ?_
   refine z3S (l:=acc) (ys:=[[c]]) rfl (hO.app _) (srcOf_last rfl) (by simp;omega) ?_
   intro v' H' ho
   refine z0D ?_
   exact ⟨[c],1,v',by rw [symAt_cons,h60];rfl,rfl,ho⟩
  ·refine z0D ?_
   refine z0F rfl (c172 _ 62 _) ?_
   have hsy:symAt (c::t)=if decide (Lib.indexByte (c::t) 62+1<4)||decide (Lib.indexByte (c::t) 62+1>18) then none
    else some (((c::t).take (Lib.indexByte (c::t) 62).toNat).drop 1,(Lib.indexByte (c::t) 62).toNat+1):=by rw [symAt_cons,h60];rfl
   rcases index_cases (c::t) 62 with h | ⟨n,hn,hl⟩
   ·rw [h] at hsy ⊢
    refine z2Z (v:=.int .i64 0) rfl ?_
    refine z0D ?_
    rw [hsy] at hx
    subst hx
    exact z1G rfl ((OwnS.nil hO.1).endsT (Plain.bool _))
   ·rw [hn] at hsy ⊢
    have hb:n≤1000001:=by omega
    refine z0D ?_
    cases h4:decide (((n+1:Nat):Int)<4)
    ·refine z0D ?_
     cases h18:decide (((n+1:Nat):Int)>18)
     ·refine z0D ?_
      have hsy':symAt (c::t)=some (((c::t).take n).drop 1,n+1):=by
       rw [hsy]
       simp only [decide_eq_false_iff_not] at h4 h18
       rw [if_neg (by simp;omega)];rfl
      simp only [decide_eq_false_iff_not] at h4
      refine z3P rfl (by omega) (by omega) ?_
      refine st_slFT (i:=1) (j:=n) (by rfl) (by rfl) (by rfl) (by omega) (by omega) ?_
      refine z0V (out:=[.str (((c::t).take n).drop 1)]) rfl ?_
      refine z3S (l:=acc) (ys:=[((c::t).take n).drop 1]) rfl (hO.app _) (srcOf_last rfl) (by simp;omega) ?_
      intro v' H' ho
      refine z0D ?_
      exact ⟨_,n+1,v',hsy',rfl,ho⟩
     ·refine z0D ?_
      rw [hsy] at hx
      simp only [decide_eq_true_eq] at h18
      rw [if_pos (by simp;omega)] at hx
      subst hx
      exact z1G rfl ((OwnS.nil hO.1).endsT (Plain.bool _))
    ·refine z0D ?_
     rw [hsy] at hx
     simp only [decide_eq_true_eq] at h4
     rw [if_pos (by simp;omega)] at hx
     subst hx
     exact z1G rfl ((OwnS.nil hO.1).endsT (Plain.bool _))
 clear hO hx hc0 e60 H1
 rintro _ H1 ⟨y,k,v,hsy,rfl,hO⟩
 have hxx:=hxx hsy
 obtain ⟨k1,k2,k3⟩:=symAt_pos hsy
 obtain ⟨hOE,hO2⟩:=hO
 rcases hO2 with ⟨h,_⟩ | ⟨id,rfl,hid,hidl,_⟩
 ·simp at h
 have hlen:(acc++[y]).length=acc.length+1:=by simp
 rw [hlen] at *
 refine z0D ?_
 refine z3P rfl (by omega) (by omega) ?_
 refine z2E (i:=acc.length) rfl (by rfl) (by omega) ?_
 refine z1T (v:=.str y) rfl hid (by rw [Nat.zero_add,Nat.mul_one];exact strs_get (by simp)) ?_
 refine st_s2b rfl ?_
 refine z2S rfl ?_
 refine z0D ?_
 have hO:OwnS (H++[]) (H1++[.cells (bytesA y)]) (.sl id 0 (acc.length+1) 1) (acc++[y]):=OwnS.app ⟨hOE,.inr ⟨id,by simp,hid,hidl,by simp⟩⟩ _
 have hby:(H1++[Blk.cells (bytesA y)])[H1.length]? =some (.cells (bytesA y)):=z0Q
 generalize (H1++[Blk.cells (bytesA y)]:Heap)=H2 at *
 generalize H1.length=bi at *
 clear hid hidl hOE H1
 refine z1B y.length (fun i al H'=>H'=H2∧al=[(0,.str (c::t)),(4,.sl id 0 (acc.length+1) 1),(5,.int .i64 k),(42,.sl bi 0 y.length 1),(43,.int .i64 y.length),(44,.int .i64 i)]∧(y.take i).all isSig=true) ⟨rfl,rfl,by simp⟩ ?_
 rintro i _ H3 hi ⟨rfl,rfl,hall⟩
 refine z0D ?_
 refine z0T _ rfl ?_ ?_<;>intro hc
 ·simp only [decide_eq_true_eq] at hc
  obtain ⟨b,hb⟩:=z1E (l:=y) (i:=i) (by omega)
  refine z0D ?_
  refine z1T (v:=.int .u8 b.toNat) rfl hby (by rw [Nat.zero_add,Nat.mul_one];exact bytesA_get hb) ?_
  refine z0D ?_
  refine z3Y [(0,.str (c::t)),(4,.sl id 0 (acc.length+1) 1),(5,.int .i64 k),(42,.sl bi 0 y.length 1),(43,.int .i64 y.length),(44,.int .i64 i),
   (61,.bool (decide ((b.toNat:Int)<33)||decide ((b.toNat:Int)>126)||((b.toNat:Int)==60)||((b.toNat:Int)==62)))] H3 ?_ ?_
  ·cases h1:decide ((b.toNat:Int)<33)
   ·refine z0D ?_
    cases h2:decide ((b.toNat:Int)>126)
    ·refine z0D ?_
     cases h3:((b.toNat:Int)==60)
     ·refine z0D ?_
      exact z0Z rfl rfl
     ·refine z0D ?_
      exact z0Z rfl rfl
    ·refine z0D ?_
     exact z0Z rfl rfl
   ·refine z0D ?_
    exact z0Z rfl rfl
  rw [sig_bad]
  cases hb1:isSig b
  ·refine z0D ?_
   have:y.all isSig=false:=by
    rw [List.all_eq_false];exact ⟨b,List.mem_of_getElem? hb,by rw [hb1];simp⟩
   rw [this] at hxx
   subst hxx
   exact z1G rfl ((OwnS.nil hO.1).endsT (Plain.bool _))
  ·refine z0D ?_
   refine ⟨by omega,rfl,rfl,?_⟩
   rw [z1U hb,List.all_append,hall]
   simp [hb1]
 ·simp only [decide_eq_false_iff_not] at hc
  have:i=y.length:=by omega
  subst this
  rw [List.take_length] at hall
  rw [hall] at hxx
  simp only [if_true] at hxx
  refine z0D ?_
  refine ⟨m,by omega,(c::t).drop k,acc++[y],_,rfl,hO,?_,by omega,?_,hxx⟩
  ·rw [List.length_drop];omega
  ·rw [List.length_append];simp;omega
abbrev RR (l:List Bt) (at_:Nat) (g:Bool):Blk:=.cells [.list 1 (l.map .str),.int .i64 at_,.bool g]
theorem sl_strs (l:List Bt):Sl 1 (.list 1 (l.map .str)) (l.map .str):=.list _
theorem map_str {l:List Bt} {i:Nat} {y:Bt} (h:l[i]? =some y):(l.map AV.str)[i]? =some (.str y):=by rw [List.getElem?_map,h];rfl
def pcA (l:List Bt) (p:Nat):Nat:=if p<l.length then p+1 else p
theorem c55 {rid p:Nat} {l:List Bt} {g:Bool} {H:Heap} (hg:H[rid]? =some (RR l p g)) (hp:p≤l.length) (hl:l.length≤1000000) :
  ACall PP 39 [.ptr rid 0] H (fun r H'=>r=.ret (.str (l.getD p []))∧H'=H.set rid (RR l (pcA l p) g)):=by
 refine is39.c1 z0W mixed rfl ?_
 have hsl:=sl_strs l
 have hsl2:(l.map AV.str).length=l.length:=List.length_map _
 rw [List.append_nil]
 refine z0D ?_
 cases h:decide ((p:Int)≥((l.map AV.str).length:Int))
 ·have hlt:p<l.length:=by simp only [decide_eq_false_iff_not,hsl2] at h;omega
  obtain ⟨y,hy⟩:=z1E hlt
  have hc:(l.map AV.str)[p+1-1]? =some (.str y):=map_str hy
  have e1:l.getD p []=y:=by rw [List.getD_eq_getElem?_getD,hy];rfl
  have e2:pcA l p=p+1:=by unfold pcA;rw [if_pos hlt]
  rw [e1,e2]
  refine z0D ?_
  refine z0X (cs':=[.list 1 (l.map .str),.int .i64 (p+1:Nat),.bool g]) (.int .i64 (p+1:Nat)) rfl rfl hg rfl rfl rfl ?_
  have hg1:=z0C (y:=RR l (p+1) g) hg
  generalize hX:H.set rid (RR l (p+1) g)=X at *
  clear hX hg
  refine z0D ?_
  refine z3P rfl (by omega) (by omega) ?_
  refine z0D ?_
  exact z1G rfl ⟨rfl,rfl⟩
 ·have hge:¬ p<l.length:=by simp only [decide_eq_true_eq,hsl2] at h;omega
  have e1:l.getD p []=[]:=by rw [List.getD_eq_getElem?_getD,List.getElem?_eq_none (by omega)];rfl
  have e2:pcA l p=p:=by unfold pcA;rw [if_neg hge]
  rw [e1,e2,set_self hg]
  refine z0D ?_
  exact z1G rfl ⟨rfl,rfl⟩
def kOf (s:Bt):Int:=if arrowS 0==s then 0 else if arrowS 1==s then 1 else if arrowS 2==s then 2 else if arrowS 3==s then 3 else -1
theorem kOf_at {s:Bt} {i:Nat} (hi:i<4) (he:(arrowS i==s)=true) (hno:∀ j:Nat,j<i→(arrowS j==s)=false):kOf s=i:=by
 unfold kOf
 have n0:0<i→(arrowS 0==s)=false:=hno 0
 have n1:1<i→(arrowS 1==s)=false:=hno 1
 have n2:2<i→(arrowS 2==s)=false:=hno 2
 match i,hi,he with
 | 0,_,he=>have he:(arrowS 0==s)=true:=he;rw [if_pos he];rfl
 | 1,_,he=>have he:(arrowS 1==s)=true:=he;rw [n0 (by omega),if_neg (by simp),if_pos he];rfl
 | 2,_,he=>have he:(arrowS 2==s)=true:=he;rw [n0 (by omega),n1 (by omega),if_neg (by simp),if_neg (by simp),if_pos he];rfl
 | 3,_,he=>have he:(arrowS 3==s)=true:=he;rw [n0 (by omega),n1 (by omega),n2 (by omega),if_neg (by simp),if_neg (by simp),if_neg (by simp),if_pos he];rfl
 | i+4,hi,_=>omega
theorem kOf_no {s:Bt} (hno:∀ j:Nat,j<4→(arrowS j==s)=false):kOf s = -1:=by
 have n0:(arrowS 0==s)=false:=hno 0 (by omega)
 have n1:(arrowS 1==s)=false:=hno 1 (by omega)
 have n2:(arrowS 2==s)=false:=hno 2 (by omega)
 have n3:(arrowS 3==s)=false:=hno 3 (by omega)
 unfold kOf
 rw [n0,n1,n2,n3];rfl
theorem c54 (s:Bt) (H:Heap):ACall PP 38 [.str s] H (Just H (.int .i64 (kOf s))):=by
 refine ACall.gives (is38.c1 z0W mixed rfl ?_)
 refine z0D ?_
 refine z0V (out:=[.int .i64 0,.int .i64 1,.int .i64 2,.int .i64 3]) rfl ?_
 rw [List.append_nil]
 have hb:(H++[Blk.cells [.int .i64 0,.int .i64 1,.int .i64 2,.int .i64 3]])[H.length]? =some (.cells [.int .i64 0,.int .i64 1,.int .i64 2,.int .i64 3]):=z0Q
 have hE:Ext H (H++[Blk.cells [.int .i64 0,.int .i64 1,.int .i64 2,.int .i64 3]]):=⟨_,rfl⟩
 generalize (H++[Blk.cells [.int .i64 0,.int .i64 1,.int .i64 2,.int .i64 3]]:Heap)=X at *
 refine z2S rfl ?_
 refine z0D ?_
 refine z1B 4 (fun i al H'=>H'=X∧al=[(0,.str s),(5,.sl H.length 0 4 1),(6,.int .i64 4),(7,.int .i64 i)]∧∀ j:Nat,j<i→(arrowS j==s)=false) ⟨rfl,rfl,fun j h=>by omega⟩ ?_
 rintro i _ X hi ⟨rfl,rfl,hno⟩
 refine z0D ?_
 refine z0T _ rfl ?_ ?_<;>intro hc
 ·simp only [decide_eq_true_eq] at hc
  refine z0D ?_
  refine z1T (v:=.int .i64 i) rfl hb ?_ ?_
  ·match i,hc with
   | 0,_=>rfl
   | 1,_=>rfl
   | 2,_=>rfl
   | 3,_=>rfl
   | i+4,hc=>omega
  refine z0D ?_
  refine z0F rfl (c31 i _) ?_
  refine z0D ?_
  cases he:(arrowS i==s)
  ·refine z0D ?_
   refine ⟨by omega,rfl,rfl,fun j hj=>?_⟩
   by_cases e:j=i
   ·subst e;exact he
   ·exact hno j (by omega)
  ·refine z0D ?_
   rw [kOf_at (by omega) he hno]
   exact z1G rfl (z0M hE (Plain.int _ _))
 ·simp only [decide_eq_false_iff_not] at hc
  refine z0D ?_
  rw [kOf_no fun j hj=>hno j (by omega)]
  exact z1G rfl (z0M hE (Plain.int _ _))
def greatW (s:Bt):Bool:=decide ((s.length:Int)>400)||decide ((((wordP s).getD []).length:Int)>60)
theorem c53 {rid p:Nat} {l:List Bt} {g:Bool} {H:Heap} (hg:H[rid]? =some (RR l p g)) (hp:p≤l.length) (hl:l.length≤1000000) (hls:∀ y∈l,y.length≤6000) :
  ACall PP 37 [.ptr rid 0] H (fun r H'=>r=.ret (.tuple [encW ⟨true,(wordP (l.getD p [])).getD []⟩,.bool (wordP (l.getD p [])).isSome])∧H'=H.set rid (RR l (pcA l p) (g||greatW (l.getD p [])))):=by
 have hs:(l.getD p []).length≤6000:=by
  rw [List.getD_eq_getElem?_getD]
  cases h:l[p]? with
  | none=>simp
  | some y=>exact hls y (List.mem_of_getElem? h)
 refine is37.c1 z0W mixed rfl ?_
 rw [List.append_nil]
 refine z0D ?_
 refine z1W rfl (c55 hg hp hl) ?_ ?_
 rotate_left
 ·rintro v H' ⟨h,_⟩;cases h
 rintro v H' ⟨h,rfl⟩
 cases h
 unfold greatW
 generalize l.getD p []=s at *
 have hg1:=z0C (y:=RR l (pcA l p) g) hg
 have e1:∀ b:Blk,(H.set rid (RR l (pcA l p) g)).set rid b=H.set rid b:=fun b=>by rw [List.set_set]
 generalize H.set rid (RR l (pcA l p) g)=X at *
 refine z0D ?_
 refine z0F rfl (c116 s (by omega) _) ?_
 generalize (wordP s).isSome=ok at *
 have hw:=sl_W ⟨true,(wordP s).getD []⟩
 simp only at hw
 generalize encW ⟨true,(wordP s).getD []⟩=wv at *
 generalize (wordP s).getD []=ws at *
 have hwl:(ws.map AV.str).length=ws.length:=List.length_map _
 have e2:decide ((ws.length:Int)>60)=decide (((ws.map AV.str).length:Int)>60):=by rw [hwl]
 rw [e2]
 refine z0D ?_
 cases g
 ·refine z0D ?_
  cases h1:decide ((s.length:Int)>400)
  ·refine z0D ?_
   cases h2:decide (((ws.map AV.str).length:Int)>60)
   ·refine z0D ?_
    refine z0X (cs':=[.list 1 (l.map .str),.int .i64 (pcA l p),.bool false]) (.bool false) rfl rfl hg1 rfl rfl (e1 _) ?_
    refine z0D ?_
    exact z1G rfl ⟨rfl,rfl⟩
   ·refine z0D ?_
    refine z0X (cs':=[.list 1 (l.map .str),.int .i64 (pcA l p),.bool true]) (.bool true) rfl rfl hg1 rfl rfl (e1 _) ?_
    refine z0D ?_
    exact z1G rfl ⟨rfl,rfl⟩
  ·refine z0D ?_
   refine z0X (cs':=[.list 1 (l.map .str),.int .i64 (pcA l p),.bool true]) (.bool true) rfl rfl hg1 rfl rfl (e1 _) ?_
   refine z0D ?_
   exact z1G rfl ⟨rfl,rfl⟩
 ·refine z0D ?_
  refine z0X (cs':=[.list 1 (l.map .str),.int .i64 (pcA l p),.bool true]) (.bool true) rfl rfl hg1 rfl rfl (e1 _) ?_
  refine z0D ?_
  exact z1G rfl ⟨rfl,rfl⟩
def spl:Bt→List Bt
 | []=>[[]]
 | c::t=>if c==32 then []::spl t else match spl t with
  | p::ps=>(c::p)::ps
  | []=>[[c]]
theorem spl_ne:∀ s:Bt,spl s≠[]
 | []=>by simp [spl]
 | c::t=>by
  unfold spl
  split
  ·simp
  ·split<;>simp
theorem spl_len:∀ s:Bt,(spl s).length=Lib.countByte s 32+1
 | []=>rfl
 | c::t=>by
  have ih:=spl_len t
  unfold spl
  unfold Lib.countByte at ih ⊢
  rw [List.count_cons]
  split
  ·simp [ih]
  ·rename_i h
   have:(c==32)=false:=by simpa using h
   split
   ·rename_i p ps hp;rw [hp] at ih;simpa using ih
   ·rename_i hp;exact absurd hp (spl_ne t)
theorem spl_no:∀ {s:Bt},Lib.indexByte s 32 = -1→spl s=[s]
 | [],_=>rfl
 | c::t,h=>by
  unfold Lib.indexByte at h
  split at h
  ·cases h
  ·rename_i hc
   split at h
   ·rename_i h2
    unfold spl
    rw [if_neg hc,spl_no (by simpa using h2)]
   ·have:=Lib.indexByte_ge t 32
    omega
theorem spl_at:∀ {s:Bt} {m:Nat},Lib.indexByte s 32=m→spl s=s.take m::spl (s.drop (m+1))
 | [],m,h=>by have h:(-1:Int)=m:=h;omega
 | c::t,m,h=>by
  unfold Lib.indexByte at h
  split at h
  ·rename_i hc
   obtain rfl:m=0:=by omega
   rw [spl,if_pos hc];rfl
  ·rename_i hc
   split at h
   ·omega
   ·rename_i h2
    have h2:Lib.indexByte t 32≠-1:=by simpa using h2
    have:=Lib.indexByte_ge t 32
    cases m with
    | zero=>omega
    | succ m =>
     have ih:=spl_at (s:=t) (m:=m) (by omega)
     rw [spl,if_neg hc,ih];rfl
theorem spl_count {s:Bt} {m:Nat} (h:Lib.indexByte s 32=m):(spl (s.drop (m+1))).length+1=(spl s).length:=by rw [spl_at h];simp
theorem spl_mem:∀ {s y:Bt},y∈spl s→y.length≤s.length
 | [],y,h=>by simp [spl] at h;subst h;simp
 | c::t,y,h=>by
  unfold spl at h
  split at h
  ·rcases List.mem_cons.1 h with rfl | h
   ·simp
   ·have:=spl_mem h;simp;omega
  ·split at h
   ·rename_i p ps hp
    rcases List.mem_cons.1 h with rfl | h
    ·have:=spl_mem (s:=t) (y:=p) (by rw [hp];simp);simp;omega
    ·have:=spl_mem (s:=t) (y:=y) (by rw [hp];simp [h]);simp;omega
   ·simp at h;subst h;simp
theorem spl_le (s:Bt):(spl s).length≤s.length+1:=by
 rw [spl_len];unfold Lib.countByte;have:=List.count_le_length (a:=(32:UInt8)) (l:=s);omega
def triR:Bt→Bt
 | []=>[]
 | c::t=>if c==32&&triR t==[] then [] else c::triR t
def triL:Bt→Bt
 | []=>[]
 | c::t=>if c==32 then triL t else c::t
theorem triR_app (t:Bt) (c:UInt8):triR (t++[c])=if c==32 then triR t else t++[c]:=by
 induction t with
 | nil=>simp only [List.nil_append,triR];cases c==32<;>rfl
 | cons b t ih =>
  simp only [List.cons_append,triR,ih]
  cases c==32
  ·simp
  ·rfl
theorem triR_len (s:Bt):(triR s).length≤s.length:=by
 induction s with
 | nil=>simp [triR]
 | cons b t ih =>
  unfold triR
  split
  ·simp
  ·simp;exact ih
theorem c114 (s:Bt) (c:UInt8) (H:Heap):ACall PP 82 [.str s,.str [c]] H (Just H (.int .i64 (Lib.countByte s c))):=count_ok _ _ _ rfl
theorem c171 (s:Bt) (c:UInt8) (H:Heap):ACall PP 122 [.str s,.str [c]] H (Just H (.int .i64 (Lib.indexByte s c))):=index_ok _ _ _ rfl
theorem c115 (s:Bt) (c:UInt8) (H:Heap):ACall PP 83 [.str s,.str [c]] H (Just H (.int .i64 (Lib.indexByte s c))):=by
 refine ACall.gives (is83.c2 z0W mixed rfl ?_)
 refine z0D ?_
 refine z0F rfl (c171 s c _) ?_
 refine z0D ?_
 exact fr
section steps
variable {P:Program} {H G:Heap} {al:AL} {K:KL} {Qp:AL→AV→Heap→Prop} {os:List IOper} {d:Nat} {x y z:Arg}
theorem st_makeS {n:Nat} {cs:List AV} (hx:evL al x=.int .i64 n) (hn:n≤1000000) (hc:cs=copies n [.str []]) (h:VV P os ((d,.sl H.length 0 n 1)::al) (H++[.cells cs]) K Qp) :
  VV P (⟨some d,.i (.m (.makeSlice 1 16 [.str []])),[x,x],none,none⟩::os) al H K Qp:=by
 subst hc
 refine st_i ?_ h
 simp only [isem,msem,evsL,hx]
 rw [if_pos ⟨by omega,by omega,by omega,by omega⟩]
 unfold put;rw [if_neg (by omega)];rfl
theorem st_mini {a b:Int} (hx:evL al x=.int .i64 a) (hy:evL al y=.int .i64 b) (h:VV P os ((d,.int .i64 (min a b))::al) H K Qp):VV P (⟨some d,.i (.d .min),[x,y],none,none⟩::os) al H K Qp:=by
 refine z2Z (v:=.int .i64 (min a b)) ?_ h
 simp only [evsL,hx,hy,dsem]
 congr 2
 split<;>omega
end steps
theorem copies_str (n:Nat):copies n [.str []]=(List.replicate n ([]:Bt)).map .str:=by
 induction n with
 | zero=>rfl
 | succ n ih =>
  have:copies (n+1) [AV.str []]=AV.str []::copies n [AV.str []]:=rfl
  rw [this,ih,List.replicate_succ,List.map_cons]
theorem setAt_mid (a c:List AV) (b v:AV):setAt (a++b::c) a.length [v]=a++v::c:=by
 simp [setAt]
theorem encW_ne {l:List Bt} (h:l≠[]):encW ⟨true,l⟩=.list 1 (l.map .str):=by
 unfold encW
 rw [if_neg]
 intro h'
 simp only [Bool.and_eq_true,List.isEmpty_iff] at h'
 exact h h'.2
theorem c52 (s:Bt) (hs:s.length≤100000) (H:Heap):ACall PP 36 [.str s,.str [32],.int .i64 0,.int .i64 (-1)] H (Just H (.list 1 ((spl s).map .str))):=by
 refine ACall.gives (is36.c4 z0W mixed rfl ?_)
 rw [List.append_nil]
 have hsl:=spl_len s
 have hsb:=spl_le s
 refine z0D ?_
 refine z0F rfl (c114 s 32 _) ?_
 generalize hk:Lib.countByte s 32=k at *
 refine z0D ?_
 refine st_mini (a:=((k+1:Nat):Int)) (b:=((s.length+1:Nat):Int)) rfl rfl ?_
 rw [show min ((k+1:Nat):Int) ((s.length+1:Nat):Int)=((k+1:Nat):Int) by omega]
 refine z0D ?_
 refine st_makeS (n:=k+1) rfl (by omega) (copies_str _).symm ?_
 have hO:Ext H (H++[Blk.cells ((List.replicate (k+1) ([]:Bt)).map .str)]):=⟨_,rfl⟩
 have hb:(H++[Blk.cells ((List.replicate (k+1) ([]:Bt)).map .str)])[H.length]? =some (.cells ((List.replicate (k+1) ([]:Bt)).map .str)):=z0Q
 generalize (H++[Blk.cells ((List.replicate (k+1) ([]:Bt)).map .str)]:Heap)=X at *
 refine z0D ?_
 refine z3P rfl (by omega) (by omega) ?_
 refine z0D ?_
 refine z2G (fun m al H'=>∃ (i:Nat) (s':Bt) (done:List Bt),al=[(0,.str s'),(1,.str [32]),(2,.int .i64 0),(3,.int .i64 k),(9,.sl H.length 0 (k+1) 1),(10,.int .i64 i)]∧Ext H H'∧H'[H.length]? =some (.cells ((done++List.replicate (m+1) ([]:Bt)).map .str)) ∧
  done.length=i∧i+m=k∧done++spl s'=spl s∧(spl s').length=m+1∧s'.length≤s.length) k
  ⟨0,s,[],rfl,hO,hb,rfl,by omega,rfl,hsl,Nat.le_refl _⟩ ?_
 clear hO hb X
 rintro m _ X ⟨i,s',done,rfl,hE,hb,hdl,him,hsp,hsm,hle⟩
 have hlt:=(List.getElem?_eq_some_iff.1 hb).1
 have put:∀ y:Bt,setAt ((done++List.replicate (m+1) ([]:Bt)).map .str) (0+i*1) [.str y]=((done++[y])++List.replicate m ([]:Bt)).map .str:=by
  intro y
  have hdl2:(done.map AV.str).length=i:=by rw [List.length_map,hdl]
  rw [List.replicate_succ,List.map_append,List.map_cons,Nat.zero_add,Nat.mul_one,←hdl2,setAt_mid]
  simp
 refine z0D ?_
 cases hc:decide ((i:Int)<(k:Int))
 ·simp only [decide_eq_false_iff_not] at hc
  obtain rfl:m=0:=by omega
  obtain rfl:i=k:=by omega
  have hs1:spl s'=[s']:=by
   rcases index_cases s' 32 with h | ⟨n,hn,hnl⟩
   ·exact spl_no h
   ·have h1:=spl_count hn
    have h2:=List.length_pos_iff.2 (spl_ne (s'.drop (n+1)))
    omega
  rw [hs1] at hsp
  refine z0D ?_
  refine z0X (.str s') rfl rfl hb (by simp [AV.shaped,AV.cells,AV.scalar];omega) (put s') rfl ?_
  have hb2:=z0C (y:=Blk.cells ((done++[s']++List.replicate 0 ([]:Bt)).map .str)) hb
  have hE2:Ext H (X.set H.length (.cells ((done++[s']++List.replicate 0 ([]:Bt)).map .str))):=hE.set (Nat.le_refl _)
  rw [List.replicate_zero,List.append_nil,hsp] at hb2 hE2 ⊢
  generalize X.set H.length (.cells ((spl s).map .str))=X2 at *
  refine z0D ?_
  refine z2Z (v:=.sl H.length 0 (i+1) 1) ?_ ?_
  ·show dslice 1 false true (.sl H.length 0 (i+1) 1) [.int .i64 ((i+1:Nat):Int)]=_
   have hb:bounds (i+1) false true [.int .i64 ((i+1:Nat):Int)]=some (0,i+1):=by
    simp only [bounds];rw [if_pos ⟨by omega,by omega⟩];rfl
   simp only [dslice,if_true,hb,Bool.false_and,Bool.false_eq_true,if_false]
   rfl
  refine z0D ?_
  rw [←encW_ne (spl_ne s)]
  have hO:OwnS (H++[]) X2 (.sl H.length 0 (i+1) 1) (spl s):=⟨by rw [List.append_nil];exact hE2,.inr ⟨H.length,by rw [hsl],hb2,by simp,spl_ne s⟩⟩
  exact z1G rfl hO.ends
 ·simp only [decide_eq_true_eq] at hc
  refine z0D ?_
  refine z0F rfl (c115 s' 32 _) ?_
  rcases index_cases s' 32 with h | ⟨n,hn,hnl⟩
  ·have:=spl_no h
   rw [this] at hsm
   simp at hsm;omega
  rw [hn]
  have hn0:decide ((n:Int)<0)=false:=by simp
  have hsa:=spl_at hn
  refine z0D ?_
  rw [hn0]
  refine z0D ?_
  refine z2J (a:=n) (b:=0) rfl rfl (by omega) ?_
  refine z4Y (i:=n) rfl rfl (by omega) ?_
  refine z0D ?_
  refine z0X (.str (s'.take n)) rfl rfl hb (by simp [AV.shaped,AV.cells,AV.scalar];omega) (put _) rfl ?_
  have hb2:=z0C (y:=Blk.cells ((done++[s'.take n]++List.replicate m ([]:Bt)).map .str)) hb
  have hE2:Ext H (X.set H.length (.cells ((done++[s'.take n]++List.replicate m ([]:Bt)).map .str))):=hE.set (Nat.le_refl _)
  generalize X.set H.length (.cells ((done++[s'.take n]++List.replicate m ([]:Bt)).map .str))=X2 at *
  refine z0D ?_
  refine z2J (a:=n) (b:=1) rfl rfl (by omega) ?_
  refine z0D ?_
  cases m with
  | zero=>omega
  | succ m =>
  refine ⟨m,by omega,i+1,s'.drop (n+1),done++[s'.take n],rfl,hE2,hb2,by simp [hdl],by omega,?_,?_,?_⟩
  ·rw [List.append_assoc,List.singleton_append,←hsa,hsp]
  ·have:=spl_count hn;omega
  ·rw [List.length_drop];omega
theorem c19 (s:Bt) (hs:s.length≤100000) (H:Heap):ACall PP 17 [.str s,.str [32]] H (Just H (.list 1 ((spl s).map .str))):=by
 have hp:Plain (.list 1 ((spl s).map .str)):=Plain.list _ fun x hx=>by obtain ⟨s,_,rfl⟩:=List.mem_map.1 hx;exact Plain.str s
 refine ACall.gives (is17.c2 z0W mixed rfl ?_)
 refine z0D ?_
 refine z0F rfl (c52 s hs _) ?_
 refine z0D ?_
 exact z1G rfl (z0M ⟨_,rfl⟩ hp)
theorem c240 (s:Bt) (hs:s.length≤100000) (H:Heap):ACall PP 176 [.str s,.int .u8 32] H (Just H (.str (triL s))):=by
 refine ACall.gives (is176.c2 z0W mixed rfl ?_)
 refine z0D ?_
 refine z2G (fun m al H'=>∃ s',al=[(0,.str s'),(1,.int .u8 32)]∧H'=H++[]∧triL s'=triL s∧s'.length=m∧m≤100000) s.length ⟨s,rfl,rfl,rfl,rfl,hs⟩ ?_
 rintro m _ _ ⟨s',rfl,rfl,ht,hm,hm2⟩
 refine z0D ?_
 match s',ht,hm with
 | [],ht,hm =>
  have e1:decide ((([]:Bt).length:Int)>0)=false:=rfl
  rw [←ht,e1]
  refine z0D ?_
  exact z1G rfl (z0M ⟨_,rfl⟩ (Plain.str _))
 | c::t,ht,hm =>
  have e1:decide (((c::t).length:Int)>0)=true:=by simp
  have hc0:(c::t)[0]? =some c:=rfl
  rw [e1]
  refine z0D ?_
  have e32:((c.toNat:Int)==32)=(c==32):=z3M c 32
  rw [e32]
  cases hc:(c==32)
  ·refine z0D ?_
   have e2:triL (c::t)=c::t:=by show (if (c==32)=true then triL t else c::t)=_;rw [hc];rfl
   rw [←ht,e2]
   exact z1G rfl (z0M ⟨_,rfl⟩ (Plain.str _))
  ·refine z0D ?_
   have e2:triL (c::t)=triL t:=by show (if (c==32)=true then triL t else c::t)=_;rw [hc];rfl
   refine st_slFrom (i:=1) rfl rfl (by simp) ?_
   refine z0D ?_
   simp only [List.length_cons] at hm
   refine ⟨t.length,by omega,t,rfl,rfl,by rw [←ht,e2],rfl,by omega⟩
theorem c241 (s:Bt) (hs:s.length≤100000) (H:Heap):ACall PP 177 [.str s,.int .u8 32] H (Just H (.str (triR s))):=by
 refine ACall.gives (is177.c2 z0W mixed rfl ?_)
 refine z0D ?_
 refine z2G (fun m al H'=>∃ s',al=[(0,.str s'),(1,.int .u8 32)]∧H'=H++[]∧triR s'=triR s∧s'.length=m∧m≤100000) s.length ⟨s,rfl,rfl,rfl,rfl,hs⟩ ?_
 rintro m _ _ ⟨s',rfl,rfl,ht,hm,hm2⟩
 refine z0D ?_
 rcases List.eq_nil_or_concat s' with rfl | ⟨t,c,rfl⟩
 ·have e1:decide ((([]:Bt).length:Int)>0)=false:=rfl
  rw [←ht,e1]
  refine z0D ?_
  exact z1G rfl (z0M ⟨_,rfl⟩ (Plain.str _))
 ·have hl:(t.concat c).length=t.length+1:=by simp
  have e1:decide (((t.concat c).length:Int)>0)=true:=by simp
  have hc0:(t.concat c)[(t.concat c).length-1]? =some c:=by simp
  rw [e1]
  refine z0D ?_
  refine z3P rfl (by omega) (by omega) ?_
  refine z0D ?_
  have e32:((c.toNat:Int)==32)=(c==32):=z3M c 32
  rw [e32]
  cases hc:(c==32)
  ·refine z0D ?_
   have e2:triR (t.concat c)=t.concat c:=by rw [List.concat_eq_append,triR_app,hc];rfl
   rw [←ht,e2]
   exact z1G rfl (z0M ⟨_,rfl⟩ (Plain.str _))
  ·refine z0D ?_
   have e2:triR (t.concat c)=triR t:=by rw [List.concat_eq_append,triR_app,hc];rfl
   refine z3P rfl (by omega) (by omega) ?_
   refine z4Y (i:=t.length) rfl (by rw [hl];rfl) (by omega) ?_
   refine z0D ?_
   exact ⟨t.length,by omega,t,by rw [List.concat_eq_append,List.take_append_of_le_length (Nat.le_refl _),List.take_length];rfl,rfl,by rw [←ht,e2],rfl,by omega⟩
theorem c212 (s:Bt) (hs:s.length≤100000) (H:Heap):ACall PP 151 [.str s,.str [32]] H (Just H (.str (triL (triR s)))):=by
 refine ACall.gives (is151.c2 z0W mixed rfl ?_)
 have hlr:=triR_len s
 have h0:([32]:Bt)[0]? =some 32:=rfl
 refine z0D ?_
 cases h1:(s==[])
 ·refine z0D ?_
  refine z0F rfl (c241 s hs _) ?_
  refine z0D ?_
  refine z0F rfl (c240 (triR s) (by omega) _) ?_
  refine z0D ?_
  exact z1G rfl (z0M ⟨_,rfl⟩ (Plain.str _))
 ·have:s=[]:=by simpa using h1
  subst this
  refine z0D ?_
  exact z1G rfl (z0M ⟨_,rfl⟩ (Plain.str _))
def bareP:Nat→Int→Bt→Bool
 | 0,_,_=>false
 | _+1,_,[]=>false
 | n+1,d,c::t=>if c==92 then bareP n d (t.drop 1) else if c==60 then bareP n d ((c::t).drop ((Lib.indexByte (c::t) 62).toNat+1))
  else if c==91 then bareP n (d+1) t else if c==93 then bareP n (d-1) t else if c==61&&d==0 then true else bareP n d t
theorem bareP_nil (n:Nat) (d:Int):bareP n d []=false:=by cases n<;>rfl
def tgr:Nat→Ex
 | 0=>lf 1
 | n+1=>nd 11 [tgr n]
def skipGt:Bt→Nat
 | []=>0
 | [_]=>0
 | c::t=>if c==62 then 0 else skipGt t+1
def cutF:Nat→UInt8→Bt→Nat→Int→Nat→List Bt
 | 0,_,s,b,_,_=>[s.drop b]
 | n+1,g,s,b,d,i=>match s.drop i with
  | []=>[s.drop b]
  | c::t=>if c==92 then cutF n g s b d (i+2) else if c==60 then cutF n g s b d (i+skipGt (c::t)+1)
   else if c==91 then cutF n g s b (d+1) (i+1) else if c==93 then cutF n g s b (d-1) (i+1)
   else if c==g&&d==0&&(i==0||s.getD (i-1) 0==32)&&(i+1==s.length||s.getD (i+1) 0==32) then (s.take i).drop b::cutF n g s (i+1) d (i+1)
   else cutF n g s b d (i+1)
def cutS (s:Bt) (g:UInt8):List Bt:=cutF (s.length+1) g s 0 0 0
theorem cutF_mem:∀ (n:Nat) (g:UInt8) (s:Bt) (b:Nat) (d:Int) (i:Nat) (t:Bt),t∈cutF n g s b d i→t.length≤s.length
 | 0,g,s,b,d,i,t,h=>by
  simp only [cutF,List.mem_singleton] at h;subst h;rw [List.length_drop];omega
 | n+1,g,s,b,d,i,t,h=>by
  have ih:=cutF_mem n g s
  simp only [cutF] at h
  split at h
  ·simp only [List.mem_singleton] at h;subst h;rw [List.length_drop];omega
  ·split at h
   ·exact ih _ _ _ _ h
   ·split at h
    ·exact ih _ _ _ _ h
    ·split at h
     ·exact ih _ _ _ _ h
     ·split at h
      ·exact ih _ _ _ _ h
      ·split at h
       ·rcases List.mem_cons.1 h with rfl | h
        ·rw [List.length_drop,List.length_take];omega
        ·exact ih _ _ _ _ h
       ·exact ih _ _ _ _ h
theorem cutF_le:∀ (n:Nat) (g:UInt8) (s:Bt) (b:Nat) (d:Int) (i:Nat),(cutF n g s b d i).length≤n+1
 | 0,g,s,b,d,i=>by simp [cutF]
 | n+1,g,s,b,d,i=>by
  have ih:=cutF_le n g s
  simp only [cutF]
  split
  ·simp
  ·split
   ·have:=ih b d (i+2);omega
   ·split
    ·exact Nat.le_trans (ih _ _ _) (by omega)
    ·split
     ·exact Nat.le_trans (ih _ _ _) (by omega)
     ·split
      ·exact Nat.le_trans (ih _ _ _) (by omega)
      ·split
       ·have:=ih (i+1) d (i+1);simp only [List.length_cons];omega
       ·exact Nat.le_trans (ih _ _ _) (by omega)
theorem cutS_le (s:Bt) (g:UInt8) {n:Nat} (h:s.length+2≤n):(cutS s g).length≤n:=Nat.le_trans (cutF_le _ _ _ _ _ _) (by omega)
theorem cutS_mem (s:Bt) (g:UInt8):∀ t∈cutS s g,t.length≤s.length:=fun t h=>cutF_mem _ _ _ _ _ _ t h
section steps
variable {P:Program} {H G:Heap} {al:AL} {K:KL} {Qp:AL→AV→Heap→Prop} {os:List IOper} {d:Nat} {x y z:Arg}
theorem st_maxi {a b:Int} (hx:evL al x=.int .i64 a) (hy:evL al y=.int .i64 b) (h:VV P os ((d,.int .i64 (max a b))::al) H K Qp):VV P (⟨some d,.i (.d .max),[x,y],none,none⟩::os) al H K Qp:=by
 refine z2Z (v:=.int .i64 (max a b)) ?_ h
 simp only [evsL,hx,hy,dsem]
 congr 2
 split<;>omega
end steps
theorem c213 (s:Bt) (hs:s.length≤100000) (H:Heap):ACall PP 152 [.str s] H (Just H (.bool (bareP (s.length+1) 0 s))):=by
 refine ACall.gives (is152.c1 z0W mixed rfl ?_)
 generalize hx:bareP (s.length+1) 0 s=xx
 refine z0D ?_
 refine z2G (fun m al H'=>∃ (i:Nat) (d:Int),al=[(0,.str s),(3,.int .i64 d),(4,.int .i64 i)]∧H'=H++[]∧-(i:Int)≤d∧d≤i∧s.length+1≤i+m∧i≤s.length+1∧bareP m d (s.drop i)=xx) (s.length+1)
  ⟨0,0,rfl,rfl,by omega,by omega,by omega,by omega,hx⟩ ?_
 clear hx
 rintro m _ _ ⟨i,d,rfl,rfl,hd1,hd2,hm,hi,hx⟩
 refine z0D ?_
 cases hc:decide ((i:Int)<(s.length:Int))
 ·simp only [decide_eq_false_iff_not] at hc
  rw [List.drop_eq_nil_of_le (by omega),bareP_nil] at hx
  subst hx
  refine z0D ?_
  exact z1G rfl (z0M ⟨_,rfl⟩ (Plain.bool _))
 simp only [decide_eq_true_eq] at hc
 obtain ⟨c,hci⟩:=z1E (l:=s) (i:=i) (by omega)
 obtain ⟨hl,hdr⟩:=List.getElem?_eq_some_iff.1 hci
 have hdc:s.drop i=c::s.drop (i+1):=by rw [List.drop_eq_getElem_cons hl,hdr]
 cases m with
 | zero=>omega
 | succ m =>
 rw [hdc] at hx
 simp only [bareP] at hx
 have e92:((c.toNat:Int)==92)=(c==92):=z3M c 92
 have e60:((c.toNat:Int)==60)=(c==60):=z3M c 60
 have e91:((c.toNat:Int)==91)=(c==91):=z3M c 91
 have e93:((c.toNat:Int)==93)=(c==93):=z3M c 93
 have e61:((c.toNat:Int)==61)=(c==61):=z3M c 61
 refine z0D ?_
 rw [e92]
 cases b1:(c==92)
 rotate_left
 ·rw [b1] at hx
  simp only [if_true] at hx
  refine z0D ?_
  exact ⟨m,by omega,i+1+1,d,rfl,rfl,by omega,by omega,by omega,by omega,by rw [←hx,List.drop_drop]⟩
 rw [b1] at hx
 simp only [Bool.false_eq_true,if_false] at hx
 refine z0D ?_
 rw [e60]
 cases b2:(c==60)
 rotate_left
 ·rw [b2] at hx
  simp only [if_true] at hx
  refine z0D ?_
  refine z0F rfl (c172 (s.drop i) 62 _) ?_
  refine st_maxi rfl rfl ?_
  rw [←hdc] at hx
  obtain ⟨n,hn,hnl⟩:∃ n:Nat,max (Lib.indexByte (s.drop i) 62) 0=(n:Int)∧n=(Lib.indexByte (s.drop i) 62).toNat∧n≤s.length-i:=by
   rcases index_cases (s.drop i) 62 with h | ⟨n,hn,hl⟩
   ·exact ⟨0,by rw [h];rfl,by rw [h];rfl,by omega⟩
   ·rw [List.length_drop] at hl
    exact ⟨n,by rw [hn];omega,by rw [hn];rfl,by omega⟩
  rw [hn]
  refine z2J (a:=i) (b:=n) rfl rfl (by omega) ?_
  refine z0D ?_
  exact ⟨m,by omega,i+n+1,d,rfl,rfl,by omega,by omega,by omega,by omega,by rw [←hx,←hnl.1,List.drop_drop,Nat.add_assoc]⟩
 rw [b2] at hx
 simp only [Bool.false_eq_true,if_false] at hx
 refine z0D ?_
 rw [e91]
 cases b3:(c==91)
 rotate_left
 ·rw [b3] at hx
  simp only [if_true] at hx
  refine z0D ?_
  refine st_addi (a:=d) (b:=1) rfl rfl (by omega) (by omega) ?_
  refine z0D ?_
  exact ⟨m,by omega,i+1,d+1,rfl,rfl,by omega,by omega,by omega,by omega,hx⟩
 rw [b3] at hx
 simp only [Bool.false_eq_true,if_false] at hx
 refine z0D ?_
 rw [e93]
 cases b4:(c==93)
 rotate_left
 ·rw [b4] at hx
  simp only [if_true] at hx
  refine z0D ?_
  refine st_subi (a:=d) (b:=1) rfl rfl (by omega) (by omega) ?_
  refine z0D ?_
  exact ⟨m,by omega,i+1,d-1,rfl,rfl,by omega,by omega,by omega,by omega,hx⟩
 rw [b4] at hx
 simp only [Bool.false_eq_true,if_false] at hx
 refine z0D ?_
 rw [e61]
 cases b5:(c==61)
 ·rw [b5] at hx
  simp only [Bool.false_and,Bool.false_eq_true,if_false] at hx
  refine z0D ?_
  exact ⟨m,by omega,i+1,d,rfl,rfl,by omega,by omega,by omega,by omega,hx⟩
 ·rw [b5] at hx
  simp only [Bool.true_and] at hx
  refine z0D ?_
  cases b6:(d==0)
  ·rw [b6] at hx
   simp only [Bool.false_eq_true,if_false] at hx
   refine z0D ?_
   exact ⟨m,by omega,i+1,d,rfl,rfl,by omega,by omega,by omega,by omega,hx⟩
  ·rw [b6] at hx
   simp only [if_true] at hx
   subst hx
   refine z0D ?_
   exact z1G rfl (z0M ⟨_,rfl⟩ (Plain.bool _))
theorem SealsX.old {n:Nat} {v u:AV} {H K:Heap} (h:SealsX n v H u K):∀ (j:Nat) (b:Blk),j<n→H[j]? =some b→K[j]? =some b:=by
 induction h with
 | done v H=>exact fun _ _ _ h=>h
 | step id cs hid hg hs h ih=>exact fun j b hj hb=>ih j b hj (by rw [List.getElem?_set,if_neg (by omega)];exact hb)
theorem c214 (H:Heap):ACall PP 153 [] H (Just H (enc (tgr 12))):=by
 have h:ACall PP 153 [] H (Ends (fun v K=>v=enc (tgr 12)∧∃ G,K=H++G) (fun _ _=>False)):=by
  refine ACall.sealed (n:=H.length) ?_
  refine is153.c0 z0W mixed rfl ?_
  rw [List.append_nil]
  refine z0E ?_
  refine z0R (out:=[.int .i64 1,.str [],.nilslice]) rfl rfl ?_
  refine z1Q ?_
  have hl0:(H++[B0]:Heap).length=H.length+1:=by simp
  have hb0:(H++[B0,B0]:Heap)[H.length]? =some B0:=by simp
  have hb1:(H++[B0,B0]:Heap)[H.length+1]? =some B0:=by rw [List.getElem?_append_right (by omega)];simp
  rw [hl0]
  have ho:∀ (j:Nat) (b:Blk),H[j]? =some b→(H++[B0,B0]:Heap)[j]? =some b:=fun j b h=>z0H h
  rw [show (H++[B0]++[B0]:Heap)=H++[B0,B0] by simp]
  generalize (H++[B0,B0]:Heap)=X at *
  have hlj:∀ (j:Nat) (b:Blk),H[j]? =some b→j<H.length:=fun j b h=>(List.getElem?_eq_some_iff.1 h).1
  refine z0P rfl rfl hb1 rfl ?_
  have hc1:=z0C (y:=Blk.cells [.int .i64 1,.str [],.nilslice]) hb1
  have hc0:=z0A (y:=Blk.cells [.int .i64 1,.str [],.nilslice]) (b:=H.length+1) hb0 (by omega)
  have hco:∀ (j:Nat) (b:Blk),H[j]? =some b→(X.set (H.length+1) (.cells [.int .i64 1,.str [],.nilslice]))[j]? =some b:=fun j b h=>z0A (ho j b h) (by have:=hlj j b h;omega)
  generalize X.set (H.length+1) (.cells [.int .i64 1,.str [],.nilslice])=Y at *
  refine z0E ?_
  refine z1B 12 (fun i al H'=>∃ c0 c1 c2,al=[(0,.ptr H.length 0),(1,.ptr (H.length+1) 0),(3,.int .i64 i)]∧H'[H.length]? =some B0∧H'[H.length+1]? =some (.cells [c0,c1,c2])∧([c0,c1,c2]:List AV).all AV.scalar=true ∧
   Nest (H.length+2) H' H'.length [c0,c1,c2] (tgr i)∧∀ (j:Nat) (b:Blk),H[j]? =some b→H'[j]? =some b) ⟨_,_,_,rfl,hc0,hc1,rfl,.base _ 1 [] true [],hco⟩ ?_
  clear ho hb0 hb1 hl0 hc1 hc0 hco
  rintro i _ Y hi ⟨c0,c1,c2,rfl,h0,h1,hsc,hN,ho⟩
  have h1l:=(List.getElem?_eq_some_iff.1 h1).1
  refine z0E ?_
  cases hc:decide ((i:Int)<12)
  ·simp only [decide_eq_false_iff_not] at hc
   obtain rfl:i=12:=by omega
   refine z0E ?_
   refine z0P rfl rfl h0 hsc ?_
   refine z0E ?_
   have hN3:Nest (H.length+2) (Y.set H.length (.cells [c0,c1,c2])) Y.length [c0,c1,c2] (tgr 12):=hN.mono (Nat.le_refl _) fun j b h1 h2 h3=>z0A h3 (by omega)
   obtain ⟨K,hK⟩:=hN3.seals.2 _ fun j b _ _ h=>h
   have hK:=hK.mono (m:=H.length) (by omega)
   exact z1G (z1K rfl (z0C h0)) (.inl ⟨_,_,K,rfl,hK,rfl,ext_old fun j b h=>hK.old j b (hlj j b h) (z0A (ho j b h) (by have:=hlj j b h;omega))⟩)
  ·simp only [decide_eq_true_eq] at hc
   refine z0E ?_
   refine z0V (out:=[c0,c1,c2]++flatE []) rfl ?_
   refine z0R rfl rfl ?_
   refine z0P rfl rfl (z0H h1) rfl ?_
   have hlast:(Y++[Blk.cells ([c0,c1,c2]++flatE [])])[Y.length]? =some (.cells ([c0,c1,c2]++flatE [])):=z0Q
   refine z0E ?_
   refine ⟨by omega,_,_,_,rfl,z0A (z0H h0) (by omega),z0C (z0H h1),rfl,?_,fun j b h=>z0A (z0H (ho j b h)) (by have:=hlj j b h;omega)⟩
   exact .node _ Y.length 11 [c0,c1,c2] (tgr i) [] (by omega) (by simp) (z0A hlast (by omega)) rfl (hN.mono (Nat.le_refl _) fun j b h1 h2 h3=>z0A (z0H h3) (by omega))
 have h2:=ACall.forgetE (S:=fun v=>v=enc (tgr 12)) (fun v hv=>by subst hv;exact plain_enc _) (P:=PP) (H:=H) (f:=153) (args:=[]) (by
  intro φ σ cargs w hr hc
  refine (h φ σ cargs w hr hc).mono ?_
  rintro e w' ⟨φ',σ',r,H',s,kp,rr,⟨v,rfl,hv,hG⟩ | ⟨v,rfl,hv⟩⟩
  ·exact ⟨φ',σ',_,H',s,kp,rr,v,rfl,hv,hG⟩
  ·exact hv.elim)
 intro φ σ cargs w hr hc
 refine (h2 φ σ cargs w hr hc).mono ?_
 rintro e w' ⟨φ',σ',r,H',s,kp,rr,v,rfl,rfl,rfl⟩
 exact ⟨φ',σ',_,_,s,kp,rr,rfl,rfl⟩
end Go.Ab
