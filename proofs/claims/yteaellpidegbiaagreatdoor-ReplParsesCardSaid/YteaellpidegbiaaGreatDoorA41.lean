/- Part 41 of the proof. -/
import Derived.Test.YteaellpidegbiaaGreatDoorA40
set_option linter.unusedVariables false
set_option linter.unusedSimpArgs false
namespace Go.Ab
open Go
set_option maxRecDepth 100000
set_option maxHeartbeats 8000000
def headApp (a:Bt) (l:List Bt):List Bt:=match l with
 | p::ps=>(a++p)::ps
 | []=>[]
theorem spl_sep {s:Bt} {i:Nat} (h:s[i]? =some 32):spl (s.drop i)=[]::spl (s.drop (i+1)):=by
 obtain ⟨hl,hd⟩:=List.getElem?_eq_some_iff.1 h
 rw [List.drop_eq_getElem_cons hl,hd,spl];rfl
theorem spl_chr {s:Bt} {i:Nat} {c:UInt8} (h:s[i]? =some c) (hc:(c==32)=false) (a:Bt):headApp a (spl (s.drop i))=headApp (a++[c]) (spl (s.drop (i+1))):=by
 obtain ⟨hl,hd⟩:=List.getElem?_eq_some_iff.1 h
 rw [List.drop_eq_getElem_cons hl,hd,spl,hc]
 simp only [Bool.false_eq_true,if_false]
 cases hs:spl (s.drop (i+1)) with
 | nil=>exact absurd hs (z3P _)
 | cons p ps=>simp [headApp]
theorem z4P {s:Bt} {i b:Nat} {c:UInt8} (h:s[i]? =some c) (hb:b≤i):(s.take (i+1)).drop b=(s.take i).drop b++[c]:=by
 rw [z4N h,List.drop_append_of_le_length]
 have:=(List.getElem?_eq_some_iff.1 h).1
 rw [List.length_take];omega
theorem c21 (s:Bt) (hs:s.length≤100000) (H:Heap):ACall PP 21 [.str s] H (Just H (.list 1 ((spl s).map .str))):=by
 refine ACall.gives (is21.c1 z0V mixed rfl ?_)
 rw [←encW_ne (z3P s)]
 refine z0D ?_
 refine z1F (s.length+1) (fun i al H'=>∃ (b:Nat) (v:AV) (out:List Bt),al=[(0,.str s),(3,v),(4,.int .i64 b),(5,.int .i64 i)]∧OwnS (H++[]) H' v out∧b≤i∧out.length≤i∧(i≤s.length→out++headApp ((s.take i).drop b) (spl (s.drop i))=spl s)∧(i=s.length+1→out=spl s))
  ⟨0,_,[],rfl,.nil (.refl _),by omega,by simp,fun _=>by
   rw [List.take_zero,List.drop_zero,List.drop_zero]
   cases h:spl s with
   | nil=>exact absurd h (z3P s)
   | cons p ps=>rfl,fun h=>by omega⟩ ?_
 rintro i _ H1 hi ⟨b,v,out,rfl,hO,hbi,hol,hin,hfi⟩
 refine z0D ?_
 cases hc:decide ((i:Int)≤(s.length:Int))
 ·simp only [decide_eq_false_iff_not] at hc
  rw [hfi (by omega)] at hO
  refine z0D ?_
  exact z1G rfl hO.ends
 simp only [decide_eq_true_eq] at hc
 have hin:=hin (by omega)
 have e1:((i:Int)==(s.length:Int))=(i==s.length):=nat_eq _ _
 refine z0D ?_
 rw [e1]
 cases hend:(i==s.length)
 ·have hne:i≠s.length:=by simpa using hend
  obtain ⟨c,hci⟩:=z1D (l:=s) (i:=i) (by omega)
  have e32:((c.toNat:Int)==32)=(c==32):=z1T c 32
  refine z0D ?_
  rw [e32]
  cases h32:(c==32)
  ·refine z0D ?_
   refine ⟨by omega,b,v,out,rfl,hO,by omega,by omega,fun _=>?_,fun h=>by omega⟩
   rw [z4P hci hbi,←spl_chr hci h32];exact hin
  ·have hc32:c=32:=by simpa using h32
   subst hc32
   rw [spl_sep hci] at hin
   simp only [headApp,List.append_nil] at hin
   refine z0D ?_
   refine z3E (i:=b) (j:=i) rfl rfl rfl (by omega) (by omega) ?_
   refine z1A (out:=[.str ((s.take i).drop b)]) rfl ?_
   refine z3W (l:=out) (ys:=[(s.take i).drop b]) rfl (hO.app _) (srcOf_last rfl) (by simp;omega) ?_
   intro v' H' ho
   refine z0D ?_
   refine ⟨by omega,i+1,v',out++[(s.take i).drop b],rfl,ho,by omega,by simp;omega,fun _=>?_,fun h=>by omega⟩
   have hz:(s.take (i+1)).drop (i+1)=[]:=List.drop_eq_nil_of_le (by rw [List.length_take];omega)
   rw [hz,←hin,List.append_assoc,List.singleton_append]
   cases h:spl (s.drop (i+1)) with
   | nil=>exact absurd h (z3P _)
   | cons p ps=>rfl
 ·have he:i=s.length:=by simpa using hend
  have hz:s.drop i=[]:=List.drop_eq_nil_of_le (by omega)
  rw [hz] at hin
  simp only [spl,headApp,List.append_nil] at hin
  refine z0D ?_
  refine z3E (i:=b) (j:=i) rfl rfl rfl (by omega) (by omega) ?_
  refine z1A (out:=[.str ((s.take i).drop b)]) rfl ?_
  refine z3W (l:=out) (ys:=[(s.take i).drop b]) rfl (hO.app _) (srcOf_last rfl) (by simp;omega) ?_
  intro v' H' ho
  refine z0D ?_
  exact ⟨by omega,i+1,v',out++[(s.take i).drop b],rfl,ho,by omega,by simp;omega,fun h=>by omega,fun _=>hin⟩
theorem c9 (s:Bt) (hs:s.length≤100000) (H:Heap):ACall PP 9 [.str s] H (Just H (.int .i64 (spl s).length)):=by
 refine ACall.gives (is9.c1 z0V mixed rfl ?_)
 have hsl:=sl_strs (spl s)
 have hsl2:((spl s).map AV.str).length=(spl s).length:=List.length_map _
 refine z0D ?_
 refine z0G rfl (c21 s hs _) ?_
 rw [←hsl2]
 refine z0D ?_
 exact fr
abbrev RF (l:List Bt) (at_:Nat) (bad:Int) (g:Bool):Blk:=.cells [.list 1 (l.map .str),.int .i64 at_,.int .i64 bad,.bool g]
theorem c118 {rid p:Nat} {l:List Bt} {bad:Int} {g:Bool} {H:Heap} (hg:H[rid]? =some (RF l p bad g)) (hp:p≤l.length) (hl:l.length≤1000000) :
  ACall PP 118 [.ptr rid 0] H (fun r H'=>r=.ret (.tuple [.str (l.getD p []),.bool (p<l.length)])∧H'=H.set rid (RF l (pcA l p) bad g)):=by
 refine is118.c1 z0V mixed rfl ?_
 have hsl:=sl_strs l
 have hsl2:(l.map AV.str).length=l.length:=List.length_map _
 have e1:((p:Int)==((l.map AV.str).length:Int))=(p==l.length):=by rw [hsl2];exact nat_eq _ _
 rw [List.append_nil]
 refine z0D ?_
 rw [e1]
 cases h:(p==l.length)
 ·have hlt:p<l.length:=by
   have:p≠l.length:=by simpa using h
   omega
  obtain ⟨y,hy⟩:=z1D hlt
  have hc:(l.map AV.str)[p+1-1]? =some (.str y):=z3Y hy
  have e2:l.getD p []=y:=by rw [List.getD_eq_getElem?_getD,hy];rfl
  have e3:pcA l p=p+1:=by unfold pcA;rw [if_pos hlt]
  rw [e2,e3,decide_eq_true hlt]
  refine z0D ?_
  refine z0P (v:=.int .i64 (p+1:Nat)) rfl rfl hg rfl (by simp) ?_
  show VV _ _ _ (H.set rid (RF l (p+1) bad g)) _ _
  have hg1:=z0C (y:=RF l (p+1) bad g) hg
  generalize H.set rid (RF l (p+1) bad g)=X at *
  clear hg
  refine z0D ?_
  refine z3D rfl (by omega) (by omega) ?_
  refine z0D ?_
  exact z1G rfl ⟨rfl,rfl⟩
 ·have hge:p=l.length:=by simpa using h
  have e2:l.getD p []=[]:=by rw [List.getD_eq_getElem?_getD,List.getElem?_eq_none (by omega)];rfl
  have e3:pcA l p=p:=by unfold pcA;rw [if_neg (by omega)]
  rw [e2,e3,z4G hg,decide_eq_false (by omega)]
  refine z0D ?_
  exact z1G rfl ⟨rfl,rfl⟩
theorem c58 {rid p:Nat} {l:List Bt} {bad:Int} {g:Bool} {H:Heap} {t:Bt} (hg:H[rid]? =some (RF l p bad g)) (hp:p≤l.length) (hl:l.length≤1000000) :
  ACall PP 58 [.ptr rid 0,.str t] H (fun r H'=>r=.ret (.bool (decide (p<l.length)&&l.getD p []==t))∧H'=H.set rid (RF l (if decide (p<l.length)&&l.getD p []==t then p+1 else p) bad g)):=by
 refine is58.c2 z0V mixed rfl ?_
 have hsl:=sl_strs l
 have hsl2:(l.map AV.str).length=l.length:=List.length_map _
 have e1:decide ((p:Int)<((l.map AV.str).length:Int))=decide (p<l.length):=by rw [hsl2];simp only [decide_eq_decide];omega
 rw [List.append_nil]
 refine z0D ?_
 rw [e1]
 cases h:decide (p<l.length)
 ·simp only [Bool.false_and,Bool.false_eq_true,if_false]
  rw [z4G hg]
  refine z0D ?_
  exact z1G rfl ⟨rfl,rfl⟩
 ·simp only [decide_eq_true_eq] at h
  obtain ⟨y,hy⟩:=z1D h
  have hc:(l.map AV.str)[p]? =some (.str y):=z3Y hy
  have e2:l.getD p []=y:=by rw [List.getD_eq_getElem?_getD,hy];rfl
  rw [e2]
  refine z0D ?_
  cases hyt:(y==t)
  ·simp only [Bool.and_false,Bool.false_eq_true,if_false]
   rw [z4G hg]
   refine z0D ?_
   exact z1G rfl ⟨rfl,rfl⟩
  ·simp only [Bool.and_self,if_true]
   refine z0D ?_
   refine z0P (v:=.int .i64 (p+1:Nat)) rfl rfl hg rfl (by simp) ?_
   show VV _ _ _ (H.set rid (RF l (p+1) bad g)) _ _
   refine z0D ?_
   exact z1G rfl ⟨rfl,rfl⟩
theorem index_first {l:Bt} {c:UInt8} {n:Nat} (h:l[n]? =some c) (hno:∀ k:Nat,k<n→l[k]?≠some c):Lib.indexByte l c=n:=by
 rcases index_cases l c with h1 | ⟨m,hm,hl⟩
 ·exact absurd h (Lib.indexByte_none h1 n)
 ·obtain ⟨a,b⟩:=Lib.indexByte_some hm
  rw [hm]
  rcases Nat.lt_trichotomy m n with hlt | heq | hgt
  ·exact absurd a (hno m hlt)
  ·rw [heq]
  ·exact absurd h (b n hgt)
theorem index_no {l:Bt} {c:UInt8} (hno:∀ k:Nat,l[k]?≠some c):Lib.indexByte l c = -1:=by
 rcases index_cases l c with h1 | ⟨m,hm,hl⟩
 ·exact h1
 ·exact absurd (Lib.indexByte_some hm).1 (hno m)
theorem bad_sig (c:UInt8):badB c = !isSig c:=sig_bad c
theorem sym_sig (y:Bt):refSym y=(y.all isSig&&(decide ((y.length:Int)≥1)&&decide ((y.length:Int)≤16))):=by
 unfold refSym
 have:(!y.any badB)=y.all isSig:=by
  induction y with
  | nil=>rfl
  | cons c t ih=>simp only [List.any_cons,List.all_cons,Bool.not_or,ih,bad_sig,Bool.not_not]
 rw [this]
def cutR (s:Bt):Option (List Bt):=wordF (s.length+1) s []
theorem c175 (s:Bt) (hs:s.length≤100000) (H:Heap):ACall PP 175 [.str s] H (Just H (.tuple [encW ⟨true,(cutR s).getD []⟩,.bool (cutR s).isSome])):=by
 refine ACall.gives (is175.c1 z0V mixed rfl ?_)
 unfold cutR
 generalize hx:wordF (s.length+1) s []=xx
 refine z0D ?_
 refine z1S (fun m al H'=>∃ (i:Nat) (v:AV) (acc:List Bt),al=[(0,.str s),(4,v),(5,.int .i64 i)]∧OwnS (H++[]) H' v acc∧i≤s.length∧s.length+1≤i+m∧acc.length≤i∧wordF m (s.drop i) acc=xx) (s.length+1)
  ⟨0,_,[],rfl,.nil (.refl _),by omega,by omega,by simp,hx⟩ ?_
 clear hx
 rintro m _ H1 ⟨i,v,acc,rfl,hO,hi,hm,hac,hx⟩
 cases m with
 | zero=>omega
 | succ m =>
 unfold wordF at hx
 refine z0D ?_
 cases hc:decide ((i:Int)<(s.length:Int))
 ·simp only [decide_eq_false_iff_not] at hc
  rw [List.drop_eq_nil_of_le (by omega)] at hx
  simp only [beq_self_eq_true,if_true] at hx
  subst hx
  refine z0D ?_
  exact z1G rfl (hO.endsT (Plain.bool _))
 simp only [decide_eq_true_eq] at hc
 obtain ⟨c,hci⟩:=z1D (l:=s) (i:=i) (by omega)
 obtain ⟨hl,hdr⟩:=List.getElem?_eq_some_iff.1 hci
 have hdc:s.drop i=c::s.drop (i+1):=by rw [List.drop_eq_getElem_cons hl,hdr]
 have hne:(s.drop i==[])=false:=by rw [hdc];rfl
 rw [hne] at hx
 simp only [Bool.false_eq_true,if_false] at hx
 have hxx:∀ {y:Bt} {k:Nat},symAt (s.drop i)=some (y,k)→(if y.all isSig=true then wordF m (s.drop (i+k)) (acc++[y]) else none)=xx:=fun h=>by rw [h] at hx;simp only [List.drop_drop] at hx;exact hx
 have hxn:symAt (s.drop i)=none→none=xx:=fun h=>by rw [h] at hx;exact hx
 have e62:((c.toNat:Int)==62)=(c==62):=z1T c 62
 have e60:((c.toNat:Int)==60)=(c==60):=z1T c 60
 have e60':((c.toNat:Int) != 60) = !(c==60):=by rw [bne,e60]
 have hone:(c==60)=false→symAt (s.drop i)=some ([c],1):=fun h=>by rw [hdc,symAt_cons,h];rfl
 have hsb:=sig_bad c
 refine z0D ?_
 refine z1Y [(0,.str s),(4,v),(5,.int .i64 i),(26,.bool (decide ((c.toNat:Int)<33)||decide ((c.toNat:Int)>126)||((c.toNat:Int)==62)))] H1 ?_ ?_
 ·cases h1:decide ((c.toNat:Int)<33)
  ·refine z0D ?_
   cases h2:decide ((c.toNat:Int)>126)
   ·refine z0D ?_
    exact z0S rfl rfl
   ·refine z0D ?_
    exact z0S rfl rfl
  ·refine z0D ?_
   exact z0S rfl rfl
 cases hbad:(decide ((c.toNat:Int)<33)||decide ((c.toNat:Int)>126)||((c.toNat:Int)==62))
 rotate_left
 ·have hs0:isSig c=false:=by
   have:(!isSig c)=true:=by
    rw [←hsb]
    simp only [Bool.or_eq_true] at hbad ⊢
    rcases hbad with (h | h) | h
    ·exact .inl (.inl (.inl h))
    ·exact .inl (.inl (.inr h))
    ·exact .inr h
   simpa using this
  have h60:(c==60)=false:=by
   refine Classical.byContradiction fun h=>?_
   have:c=60:=by simpa using h
   subst this
   revert hbad;decide
  have:=hxx (hone h60)
  simp only [List.all_cons,List.all_nil,hs0,Bool.false_and,Bool.false_eq_true,if_false] at this
  subst this
  refine z0D ?_
  exact z1G rfl ((OwnS.nil hO.1).endsT (Plain.bool _))
 refine z0D ?_
 rw [e60']
 cases h60:(c==60)
 ·have hs1:isSig c=true:=by
   have:(!isSig c)=false:=by
    rw [←hsb,e60,h60]
    simp only [Bool.or_eq_false_iff] at hbad ⊢
    exact ⟨⟨hbad.1,trivial⟩,hbad.2⟩
   simpa using this
  have hy:=hxx (hone h60)
  simp only [List.all_cons,List.all_nil,hs1,Bool.and_self,if_true] at hy
  refine z0D ?_
  refine z3E (i:=i) (j:=i+1) rfl rfl rfl (by omega) (by omega) ?_
  have hsl:(s.take (i+1)).drop i=[c]:=by
   rw [z4P hci (Nat.le_refl _),List.drop_eq_nil_of_le (by rw [List.length_take];omega)];rfl
  rw [hsl]
  refine z1A (out:=[.str [c]]) rfl ?_
  refine z3W (l:=acc) (ys:=[[c]]) rfl (hO.app _) (srcOf_last rfl) (by simp;omega) ?_
  intro v' H' ho
  refine z0D ?_
  exact ⟨m,by omega,i+1,v',acc++[[c]],rfl,ho,by omega,by omega,by simp;omega,hy⟩
 have hc60:c=60:=by simpa using h60
 have hsy:symAt (s.drop i)=if decide (Lib.indexByte (s.drop i) 62+1<4)||decide (Lib.indexByte (s.drop i) 62+1>18) then none
   else some (((s.drop i).take (Lib.indexByte (s.drop i) 62).toNat).drop 1,(Lib.indexByte (s.drop i) 62).toNat+1):=by rw [hdc,symAt_cons,h60];rfl
 refine z0D ?_
 refine z1F (s.length-(i+1)) (fun j al H'=>H'=H1∧al=[(0,.str s),(4,v),(5,.int .i64 i),(6,.int .i64 (i+1+j:Nat))]∧∀ k,k<1+j→(s.drop i)[k]?≠some 62) ⟨rfl,rfl,fun k hk=>by
  obtain rfl:k=0:=by omega
  rw [hdc,hc60];simp⟩ ?_
 rintro j _ H2 hj ⟨rfl,rfl,hno⟩
 have e1:(((i+1+j:Nat):Int)==(s.length:Int))=(i+1+j==s.length):=nat_eq _ _
 refine z0D ?_
 cases hcj:decide (((i+1+j:Nat):Int)<(s.length:Int))
 ·simp only [decide_eq_false_iff_not] at hcj
  have he:i+1+j=s.length:=by omega
  have hidx:Lib.indexByte (s.drop i) 62 = -1:=index_no fun k hk=>by
   by_cases h:k<1+j
   ·exact hno k h hk
   ·have:=(List.getElem?_eq_some_iff.1 hk).1
    rw [List.length_drop] at this;omega
  rw [hidx] at hsy
  have hxn:=hxn hsy
  subst hxn
  refine z0D ?_
  rw [e1,he,beq_self_eq_true]
  refine z0D ?_
  exact z1G rfl ((OwnS.nil hO.1).endsT (Plain.bool _))
 simp only [decide_eq_true_eq] at hcj
 obtain ⟨c',hcj'⟩:=z1D (l:=s) (i:=i+1+j) (by omega)
 have f62:((c'.toNat:Int) != 62) = !(c'==62):=by
  have:((c'.toNat:Int)==62)=(c'==62):=z1T c' 62
  rw [bne,this]
 have hdj:(s.drop i)[1+j]? =some c':=by rw [List.getElem?_drop,←Nat.add_assoc];exact hcj'
 refine z0D ?_
 rw [f62]
 cases h62:(c'==62)
 ·refine z0D ?_
  refine ⟨by omega,rfl,rfl,fun k hk=>?_⟩
  by_cases h:k<1+j
  ·exact hno k h
  ·obtain rfl:k=1+j:=by omega
   rw [hdj]
   intro e
   injection e with e
   subst e;cases h62
 have hc62:c'=62:=by simpa using h62
 subst hc62
 have hidx:Lib.indexByte (s.drop i) 62=((1+j:Nat):Int):=index_first hdj hno
 rw [hidx] at hsy
 have hne2:(i+1+j==s.length)=false:=by simpa using (show i+1+j≠s.length by omega)
 refine z0D ?_
 rw [e1,hne2]
 refine z0D ?_
 refine z3H (a:=((i+1+j:Nat):Int)) (b:=(i:Int)) rfl rfl (by omega) (by omega) ?_
 rw [show ((i+1+j:Nat):Int)-(i:Int)=((1+j:Nat):Int) by omega]
 have hyl:((s.take (i+1+j)).drop (i+1)).length=j:=by rw [List.length_drop,List.length_take];omega
 have hyd:((s.drop i).take (1+j)).drop 1=(s.take (i+1+j)).drop (i+1):=by
  rw [List.take_drop,List.drop_drop,Nat.add_assoc]
 rw [Int.toNat_natCast,hyd] at hsy
 have k142:=sym_sig ((s.take (i+1+j)).drop (i+1))
 have c142':=c142 ((s.take (i+1+j)).drop (i+1)) (by unfold okS;omega) H2
 refine z0D ?_
 cases h3:decide (((1+j:Nat):Int)<3)
 rotate_left
 ·simp only [decide_eq_true_eq] at h3
  rw [if_pos (by simp;omega)] at hsy
  have hxn:=hxn hsy
  subst hxn
  refine z0D ?_
  exact z1G rfl ((OwnS.nil hO.1).endsT (Plain.bool _))
 simp only [decide_eq_false_iff_not] at h3
 refine z0D ?_
 refine z3E (i:=i+1) (j:=i+1+j) rfl rfl rfl (by omega) (by omega) ?_
 refine z0D ?_
 refine z0G rfl c142' ?_
 cases hrs:refSym ((s.take (i+1+j)).drop (i+1))
 ·have hnone:none=xx:=by
   rw [hrs] at k142
   by_cases hj16:j≤16
   ·rw [if_neg (by simp;omega)] at hsy
    have:=hxx hsy
    have hall:((s.take (i+1+j)).drop (i+1)).all isSig=false:=by
     have h1:decide ((((s.take (i+1+j)).drop (i+1)).length:Int)≥1)=true:=by rw [hyl];simp;omega
     have h2:decide ((((s.take (i+1+j)).drop (i+1)).length:Int)≤16)=true:=by rw [hyl];simp;omega
     rw [h1,h2] at k142
     simpa using k142.symm
    rw [hall] at this
    simpa using this
   ·rw [if_pos (by simp;omega)] at hsy
    exact hxn hsy
  subst hnone
  refine z0D ?_
  exact z1G rfl ((OwnS.nil hO.1).endsT (Plain.bool _))
 ·rw [hrs] at k142
  have k142:=k142.symm
  simp only [Bool.and_eq_true,decide_eq_true_eq] at k142
  rw [hyl] at k142
  rw [if_neg (by simp;omega)] at hsy
  have hy:=hxx hsy
  rw [k142.1] at hy
  simp only [if_true] at hy
  refine z0D ?_
  refine z3E (i:=i+1) (j:=i+1+j) rfl rfl rfl (by omega) (by omega) ?_
  refine z1A (out:=[.str ((s.take (i+1+j)).drop (i+1))]) rfl ?_
  refine z3W (l:=acc) (ys:=[(s.take (i+1+j)).drop (i+1)]) rfl (hO.app _) (srcOf_last rfl) (by simp;omega) ?_
  intro v' H' ho
  refine z0D ?_
  exact ⟨m,by omega,i+1+j+1,v',acc++[(s.take (i+1+j)).drop (i+1)],rfl,ho,by omega,by omega,by simp;omega,by rw [←hy];congr 2;omega⟩
theorem c119 (s:Bt) (hs:s.length≤100000) (H:Heap):ACall PP 119 [.str s] H (Just H (.tuple [encW ⟨true,if s==[91,93] then [] else ((cutR s).getD [])⟩,.bool (s==[91,93]||((cutR s).isSome && !(s==[])))])):=by
 have hpl:∀ w b,Plain (.tuple [encW w,.bool b]):=fun w b=>Plain.tuple fun x hx=>by
  simp only [List.mem_cons,List.not_mem_nil,or_false] at hx
  rcases hx with rfl | rfl
  ·exact plain_W _
  ·exact Plain.bool _
 refine ACall.gives (is119.c1 z0V mixed rfl ?_)
 refine z0D ?_
 cases hb:(s==[91,93])
 ·simp only [Bool.false_eq_true,if_false,Bool.false_or]
  refine z0D ?_
  refine z0G rfl (c175 s hs _) ?_
  generalize (cutR s).isSome=ok at *
  have e0:decide ((s.length:Int)>0) = !(s==[]):=by cases s<;>simp
  have hq:=hpl ⟨true,(cutR s).getD []⟩
  generalize encW ⟨true,(cutR s).getD []⟩=wv at *
  refine z0D ?_
  cases ok
  ·refine z0D ?_
   exact z1G rfl (z0N ⟨_,rfl⟩ (hq _))
  ·refine z0D ?_
   rw [e0]
   refine z0D ?_
   exact z1G rfl (z0N ⟨_,rfl⟩ (hq _))
 ·simp only [if_true,Bool.true_or]
  refine z0D ?_
  exact z1G rfl (z0N ⟨_,rfl⟩ (hpl ⟨true,[]⟩ true))
def wdR (s:Bt):Wd:=⟨true,if s==[91,93] then [] else (cutR s).getD []⟩
def wkR (s:Bt):Bool:=s==[91,93]||((cutR s).isSome && !(s==[]))
theorem arrowS_inj {a b:Nat} (ha:a<4) (hb:(b:Int)<4) (h:arrowS a=arrowS b):a=b:=by
 have hb:b<4:=by omega
 rcases (show a=0∨a=1∨a=2∨a=3 by omega) with rfl | rfl | rfl | rfl <;>
  rcases (show b=0∨b=1∨b=2∨b=3 by omega) with rfl | rfl | rfl | rfl <;>
   first | rfl | (revert h;decide)
theorem kOf_last {s:Bt} {k:Int} (h1:∀ j:Nat,j<4→(arrowS j==s)=true→k=j) (h2:(∀ j:Nat,j<4→(arrowS j==s)=false)→k = -1):kOf s=k:=by
 by_cases c0:(arrowS (0:Nat)==s)=true
 ·rw [kOf_at (by omega) c0 (fun j h=>by omega),h1 0 (by omega) c0]
 by_cases c1:(arrowS (1:Nat)==s)=true
 ·rw [kOf_at (by omega) c1 (fun j h=>by
   obtain rfl:j=0:=by omega
   simpa using c0),h1 1 (by omega) c1]
 by_cases c2:(arrowS (2:Nat)==s)=true
 ·rw [kOf_at (by omega) c2 (fun j h=>by
   rcases (show j=0∨j=1 by omega) with rfl | rfl
   ·simpa using c0
   ·simpa using c1),h1 2 (by omega) c2]
 by_cases c3:(arrowS (3:Nat)==s)=true
 ·rw [kOf_at (by omega) c3 (fun j h=>by
   rcases (show j=0∨j=1∨j=2 by omega) with rfl | rfl | rfl
   ·simpa using c0
   ·simpa using c1
   ·simpa using c2),h1 3 (by omega) c3]
 have hno:∀ j:Nat,j<4→(arrowS j==s)=false:=fun j h=>by
  rcases (show j=0∨j=1∨j=2∨j=3 by omega) with rfl | rfl | rfl | rfl
  ·simpa using c0
  ·simpa using c1
  ·simpa using c2
  ·simpa using c3
 rw [kOf_no hno,h2 hno]
theorem res57 {al:AL} {H':Heap} {n:Nat} {cs:List AV} {a b:AV} (h2:look al 2=.ptr n 0) (h3:look al 3=a) (h4:look al 4=b) (hg:H'[n]? =some (.cells cs)) (hl:cs.length=2) :
  resultL ic57.rs al H'=some (.tuple [.agg cs,a,b]):=by
 have hd:dpart (some 2) cs 0=some (.agg cs):=dpart_all hl
 have e:rload (some 2) (look al 2) H'=some (.agg cs):=by rw [h2];simp only [rload,hg,hd]
 show (match resVL [.cell 2 (some 2),.tmp 3,.tmp 4] al H' with | some [v]=>some v | some vs=>some (.tuple vs) | none=>none)=_
 simp only [resVL,e,h3,h4]
theorem pcA_le {l:List Bt} {p:Nat} (h:p≤l.length):pcA l p≤l.length:=by unfold pcA;split<;>omega
theorem c57 {rid p:Nat} {l:List Bt} {bad:Int} {g:Bool} {H:Heap} (hg:H[rid]? =some (RF l p bad g)) (hp:p≤l.length) (hl:l.length≤1000000) (hls:∀ y∈l,y.length≤6000) :
  ACall PP 57 [.ptr rid 0] H (fun r H'=>r=.ret (.tuple [.agg [encW (wdR (l.getD p [])),encW (wdR (l.getD (pcA l (pcA l p)) []))],.int .i64 (kOf (l.getD (pcA l p) [])),
   .bool (decide (p<l.length)&&decide (pcA l p<l.length)&&decide (pcA l (pcA l p)<l.length)&&wkR (l.getD p [])&&wkR (l.getD (pcA l (pcA l p)) [])&&decide (kOf (l.getD (pcA l p) [])≥0))]) ∧
   Mod H rid (RF l (pcA l (pcA l (pcA l p))) bad (g||decide (((l.getD p []).length:Int)>400)||decide (((l.getD (pcA l (pcA l p)) []).length:Int)>400))) H'):=by
 have hrl:=(List.getElem?_eq_some_iff.1 hg).1
 have hgl:∀ i,(l.getD i []).length≤6000:=fun i=>by
  rw [List.getD_eq_getElem?_getD]
  cases hi:l[i]? with
  | none=>simp
  | some y=>exact hls y (List.mem_of_getElem? hi)
 refine is57.c1 z0V mixed rfl ?_
 rw [List.append_nil]
 have m0:Mod H rid (RF l p bad g) (H++[Blk.cells [.nilslice,.nilslice]]):=(Mod.refl hg).app _
 have h0:(H++[Blk.cells [.nilslice,.nilslice]])[H.length]? =some (.cells [.nilslice,.nilslice]):=z0K
 refine z0B ?_
 generalize (H++[Blk.cells [.nilslice,.nilslice]]:Heap)=X0 at *
 refine z1H rfl (c118 m0.get (hp) hl) ?_ ?_
 rotate_left
 ·rintro v H' ⟨h,_⟩;cases h
 rintro v H' ⟨h,rfl⟩
 cases h
 have m1:Mod H rid (RF l (pcA l p) bad g) (X0.set rid (RF l (pcA l p) bad g)):=m0.put
 have h1:=z0A (y:=RF l (pcA l p) bad g) (b:=rid) h0 (by omega)
 generalize X0.set rid (RF l (pcA l p) bad g)=X1 at *
 clear m0 h0 X0
 refine z0B ?_
 refine z1H rfl (c118 m1.get (pcA_le hp) hl) ?_ ?_
 rotate_left
 ·rintro v H' ⟨h,_⟩;cases h
 rintro v H' ⟨h,rfl⟩
 cases h
 have m2:Mod H rid (RF l (pcA l (pcA l p)) bad g) (X1.set rid (RF l (pcA l (pcA l p)) bad g)):=m1.put
 have h2:=z0A (y:=RF l (pcA l (pcA l p)) bad g) (b:=rid) h1 (by omega)
 generalize X1.set rid (RF l (pcA l (pcA l p)) bad g)=X2 at *
 clear m1 h1 X1
 refine z0B ?_
 refine z1H rfl (c118 m2.get (pcA_le (pcA_le hp)) hl) ?_ ?_
 rotate_left
 ·rintro v H' ⟨h,_⟩;cases h
 rintro v H' ⟨h,rfl⟩
 cases h
 have m3:Mod H rid (RF l (pcA l (pcA l (pcA l p))) bad g) (X2.set rid (RF l (pcA l (pcA l (pcA l p))) bad g)):=m2.put
 have h3:=z0A (y:=RF l (pcA l (pcA l (pcA l p))) bad g) (b:=rid) h2 (by omega)
 generalize X2.set rid (RF l (pcA l (pcA l (pcA l p))) bad g)=X3 at *
 clear m2 h2 X2
 have d1:decide (p<l.length)=decide (p<l.length):=rfl
 generalize decide (p<l.length)=o1 at *
 generalize decide (pcA l p<l.length)=o2 at *
 generalize decide (pcA l (pcA l p)<l.length)=o3 at *
 have hs1:=hgl p
 have hs3:=hgl (pcA l (pcA l p))
 generalize l.getD p []=s1 at *
 generalize l.getD (pcA l p) []=s2 at *
 generalize l.getD (pcA l (pcA l p)) []=s3 at *
 generalize pcA l (pcA l (pcA l p))=p3 at *
 have k1:=c119 s1 (by omega)
 have k3:=c119 s3 (by omega)
 change ∀ H:Heap,ACall PP 119 [.str s1] H (Just H (.tuple [encW (wdR s1),.bool (wkR s1)])) at k1
 change ∀ H:Heap,ACall PP 119 [.str s3] H (Just H (.tuple [encW (wdR s3),.bool (wkR s3)])) at k3
 have hw1:=scalar_W (wdR s1)
 have hw3:=scalar_W (wdR s3)
 generalize encW (wdR s1)=e1 at *
 generalize encW (wdR s3)=e3 at *
 generalize wkR s1=v1 at *
 generalize wkR s3=v3 at *
 have hg3:=m3.get
 refine z0B ?_
 refine vv_cutE [(2,.ptr H.length 0),(5,.str s1),(6,.bool o1),(7,.str s2),(8,.bool o2),(9,.str s3),(10,.bool o3)] (fun H'=>Mod H rid (RF l p3 bad (g||decide ((s1.length:Int)>400)||decide ((s3.length:Int)>400))) H'∧H'[H.length]? =some (.cells [.nilslice,.nilslice])) ?_ ?_
 ·cases g
  ·refine z0B ?_
   cases b1:decide ((s1.length:Int)>400)
   ·refine z0B ?_
    cases b2:decide ((s3.length:Int)>400)
    ·refine z0B ?_
     refine z0P (v:=.bool false) rfl rfl hg3 rfl (by simp) ?_
     exact z2E rfl ⟨m3.put,z0A h3 (by omega)⟩
    ·refine z0B ?_
     refine z0P (v:=.bool true) rfl rfl hg3 rfl (by simp) ?_
     exact z2E rfl ⟨m3.put,z0A h3 (by omega)⟩
   ·refine z0B ?_
    refine z0P (v:=.bool true) rfl rfl hg3 rfl (by simp) ?_
    exact z2E rfl ⟨m3.put,z0A h3 (by omega)⟩
  ·refine z0B ?_
   refine z0P (v:=.bool true) rfl rfl hg3 rfl (by simp) ?_
   exact z2E rfl ⟨m3.put,z0A h3 (by omega)⟩
 rintro Y ⟨mY,hY⟩
 clear hg3 h3 m3 X3
 generalize (g||decide ((s1.length:Int)>400)||decide ((s3.length:Int)>400))=g' at *
 refine z0B ?_
 refine z0G rfl (k1 Y) ?_
 refine z0B ?_
 refine z0G rfl (k3 Y) ?_
 refine z0B ?_
 refine z1F 4 (fun i al H'=>H'=Y∧∃ k:Int,al=[(2,.ptr H.length 0),(6,.bool o1),(7,.str s2),(8,.bool o2),(10,.bool o3),(11,e1),(12,.bool v1),(13,e3),(14,.bool v3),(15,.int .i64 k),(16,.int .i64 i)] ∧
  (∀ j:Nat,j<i→(arrowS j==s2)=true→k=j)∧((∀ j:Nat,j<i→(arrowS j==s2)=false)→k = -1)) ⟨rfl,-1,rfl,fun j h=>by omega,fun _=>rfl⟩ ?_
 rintro i _ Y2 hi ⟨rfl,k,rfl,hk1,hk2⟩
 refine z0B ?_
 cases hc:decide ((i:Int)<4)
 ·simp only [decide_eq_false_iff_not] at hc
  obtain rfl:i=4:=by omega
  rw [kOf_last hk1 hk2]
  refine z0B ?_
  refine z0L (out:=[e1,e3]) rfl (by
   show fillA [.nilslice,.nilslice] [(0,1),(1,1)] [e1,e3]=some [e1,e3]
   simp [fillA,shaped_one hw1,shaped_one hw3,cells_one hw1,cells_one hw3,setAt]) ?_
  refine z0B ?_
  cases o1
  ·refine z0B ?_
   refine z0Z (k:=2) (ws:=[e1,e3]) rfl rfl hY rfl rfl (by simp [hw1,hw3]) ?_
   refine z0B ?_
   exact z1G (res57 rfl rfl rfl (z0C hY) rfl) ⟨rfl,mY.own (Nat.le_refl _) (by omega)⟩
  ·refine z0B ?_
   cases o2
   ·refine z0B ?_
    refine z0Z (k:=2) (ws:=[e1,e3]) rfl rfl hY rfl rfl (by simp [hw1,hw3]) ?_
    refine z0B ?_
    exact z1G (res57 rfl rfl rfl (z0C hY) rfl) ⟨rfl,mY.own (Nat.le_refl _) (by omega)⟩
   ·refine z0B ?_
    cases o3
    ·refine z0B ?_
     refine z0Z (k:=2) (ws:=[e1,e3]) rfl rfl hY rfl rfl (by simp [hw1,hw3]) ?_
     refine z0B ?_
     exact z1G (res57 rfl rfl rfl (z0C hY) rfl) ⟨rfl,mY.own (Nat.le_refl _) (by omega)⟩
    ·refine z0B ?_
     cases v1
     ·refine z0B ?_
      refine z0Z (k:=2) (ws:=[e1,e3]) rfl rfl hY rfl rfl (by simp [hw1,hw3]) ?_
      refine z0B ?_
      exact z1G (res57 rfl rfl rfl (z0C hY) rfl) ⟨rfl,mY.own (Nat.le_refl _) (by omega)⟩
     ·refine z0B ?_
      cases v3
      ·refine z0B ?_
       refine z0Z (k:=2) (ws:=[e1,e3]) rfl rfl hY rfl rfl (by simp [hw1,hw3]) ?_
       refine z0B ?_
       exact z1G (res57 rfl rfl rfl (z0C hY) rfl) ⟨rfl,mY.own (Nat.le_refl _) (by omega)⟩
      ·refine z0B ?_
       refine z0Z (k:=2) (ws:=[e1,e3]) rfl rfl hY rfl rfl (by simp [hw1,hw3]) ?_
       refine z0B ?_
       exact z1G (res57 rfl rfl rfl (z0C hY) rfl) ⟨rfl,mY.own (Nat.le_refl _) (by omega)⟩
 ·simp only [decide_eq_true_eq] at hc
  refine z0B ?_
  refine z0G (args:=[]) rfl (c36 _) ?_
  refine z0B ?_
  refine z2V (v:=.str (arrowS i)) (arr_idx (by omega) (by omega)) ?_
  refine z0B ?_
  cases he:(arrowS i==s2)
  ·refine z0B ?_
   refine ⟨by omega,rfl,k,rfl,fun j hj h=>?_,fun h=>hk2 fun j hj=>h j (by omega)⟩
   by_cases e:j=i
   ·subst e;rw [he] at h;cases h
   ·exact hk1 j (by omega) h
  ·refine z0B ?_
   refine ⟨by omega,rfl,i,rfl,fun j hj h=>?_,fun h=>?_⟩
   ·by_cases e:j=i
    ·rw [e]
    ·exact absurd (beq_iff_eq.1 he) (fun e2=>by
      have h2:=beq_iff_eq.1 h
      rw [←h2] at e2
      exact e (arrowS_inj (by omega) hc e2.symm))
   ·rw [h i (by omega)] at he;cases he
def toGt (l:Bt):Nat:=(l.takeWhile (· != 62)).length
theorem toGt_le (l:Bt):toGt l≤l.length:=by unfold toGt;induction l with
 | nil=>simp
 | cons c t ih=>rw [List.takeWhile_cons];split<;>simp;exact ih
theorem toGt_at {l:Bt} {j:Nat} (hj:j≤toGt l):toGt (l.drop j)=toGt l-j:=by
 induction l generalizing j with
 | nil=>simp [toGt]
 | cons c t ih =>
  cases j with
  | zero=>simp
  | succ j =>
   unfold toGt at hj ih ⊢
   rw [List.takeWhile_cons] at hj ⊢
   split at hj
   ·rename_i h
    rw [if_pos h]
    simp only [List.length_cons] at hj ⊢
    rw [List.drop_succ_cons,ih (by omega)];omega
   ·simp at hj
theorem toGt_zero {l:Bt}:toGt l=0↔l=[]∨∃ t,l=62::t:=by
 cases l with
 | nil=>simp [toGt]
 | cons c t =>
  unfold toGt
  rw [List.takeWhile_cons]
  by_cases h:c=62
  ·subst h;simp
  ·rw [if_pos (by simpa using h)];simp [h]
def depF:Nat→Int→Bt→Int
 | 0,d,_=>d
 | _+1,d,[]=>d
 | n+1,d,c::t=>if c==92 then depF n d (t.drop 1) else if c==60 then depF n d ((c::t).drop (toGt (c::t)+1))
  else if c==91&&(t.take 1==[93]) then depF n d (t.drop 1) else if c==91 then depF n (d+1) t else if c==93 then depF n (d-1) t else depF n d t
theorem depF_nil (n:Nat) (d:Int):depF n d []=d:=by cases n<;>rfl
def depR (s:Bt):Int:=depF (s.length+1) 0 s
def bareF:Nat→Int→Bt→Bool
 | 0,_,_=>false
 | _+1,_,[]=>false
 | n+1,d,c::t=>if c==92 then bareF n d (t.drop 1) else if c==60 then bareF n d ((c::t).drop (toGt (c::t)+1))
  else if c==91 then bareF n (d+1) t else if c==93 then bareF n (d-1) t else if c==61&&d==0 then true else bareF n d t
theorem bareF_nil (n:Nat) (d:Int):bareF n d []=false:=by cases n<;>rfl
def bareR (s:Bt):Bool:=bareF (s.length+1) 0 s
theorem c178 (s:Bt) (hs:s.length≤100000) (H:Heap):ACall PP 178 [.str s] H (Just H (.bool (bareR s))):=by
 refine ACall.gives (is178.c1 z0V mixed rfl ?_)
 unfold bareR
 generalize hx:bareF (s.length+1) 0 s=xx
 refine z0D ?_
 refine z1S (fun m al H'=>∃ (i:Nat) (d:Int),al=[(0,.str s),(3,.int .i64 d),(4,.int .i64 i)]∧H'=H++[]∧-(i:Int)≤d∧d≤i∧s.length+1≤i+m∧i≤s.length+1∧bareF m d (s.drop i)=xx) (s.length+1)
  ⟨0,0,rfl,rfl,by omega,by omega,by omega,by omega,hx⟩ ?_
 clear hx
 rintro m _ _ ⟨i,d,rfl,rfl,hd1,hd2,hm,hi,hx⟩
 refine z0D ?_
 cases hc:decide ((i:Int)<(s.length:Int))
 ·simp only [decide_eq_false_iff_not] at hc
  rw [List.drop_eq_nil_of_le (by omega),bareF_nil] at hx
  subst hx
  refine z0D ?_
  exact z1G rfl (z0N ⟨_,rfl⟩ (Plain.bool _))
 simp only [decide_eq_true_eq] at hc
 obtain ⟨c,hci⟩:=z1D (l:=s) (i:=i) (by omega)
 obtain ⟨hl,hdr⟩:=List.getElem?_eq_some_iff.1 hci
 have hdc:s.drop i=c::s.drop (i+1):=by rw [List.drop_eq_getElem_cons hl,hdr]
 cases m with
 | zero=>omega
 | succ m =>
 rw [hdc] at hx
 simp only [bareF] at hx
 have e92:((c.toNat:Int)==92)=(c==92):=z1T c 92
 have e60:((c.toNat:Int)==60)=(c==60):=z1T c 60
 have e91:((c.toNat:Int)==91)=(c==91):=z1T c 91
 have e93:((c.toNat:Int)==93)=(c==93):=z1T c 93
 have e61:((c.toNat:Int)==61)=(c==61):=z1T c 61
 refine z0D ?_
 rw [e92]
 cases b1:(c==92)
 rotate_left
 ·rw [b1] at hx
  simp only [if_true] at hx
  refine z0D ?_
  exact ⟨m,by omega,i+1+1,d,rfl,rfl,by omega,by omega,by omega,by omega,by rw [←hx,List.drop_drop]⟩
 rw [b1] at hx
 simp only [Bool.false_eq_true,if_false] at hx
 refine z0D ?_
 rw [e60]
 cases b2:(c==60)
 rotate_left
 ·rw [b2] at hx
  simp only [if_true] at hx
  rw [←hdc] at hx
  have hgl:=toGt_le (s.drop i)
  rw [List.length_drop] at hgl
  refine z0D ?_
  refine z1F (toGt (s.drop i)) (fun j al H'=>H'=H++[]∧al=[(0,.str s),(3,.int .i64 d),(4,.int .i64 (i+j:Nat))]) ⟨rfl,rfl⟩ ?_
  rintro j _ _ hj ⟨rfl,rfl⟩
  have hta:=toGt_at hj
  rw [List.drop_drop] at hta
  refine z0D ?_
  cases hcj:decide (((i+j:Nat):Int)<(s.length:Int))
  ·simp only [decide_eq_false_iff_not] at hcj
   have hjt:j=toGt (s.drop i):=by omega
   refine z0D ?_
   exact ⟨m,by omega,i+j+1,d,rfl,rfl,by omega,by omega,by omega,by omega,by rw [←hx,←hjt,List.drop_drop,Nat.add_assoc]⟩
  simp only [decide_eq_true_eq] at hcj
  obtain ⟨c',hcj'⟩:=z1D (l:=s) (i:=i+j) (by omega)
  have hdj:s.drop (i+j)=c'::s.drop (i+j+1):=by
   obtain ⟨hl',hdr'⟩:=List.getElem?_eq_some_iff.1 hcj'
   rw [List.drop_eq_getElem_cons hl',hdr']
  have f62:((c'.toNat:Int) != 62) = !(c'==62):=by
   have:((c'.toNat:Int)==62)=(c'==62):=z1T c' 62
   rw [bne,this]
  refine z0D ?_
  rw [f62]
  cases h62:(c'==62)
  ·have hne:toGt (s.drop (i+j))≠0:=by
    intro h
    rcases toGt_zero.1 h with h | ⟨t,h⟩
    ·rw [hdj] at h;cases h
    ·rw [hdj] at h;injection h with h _;subst h;cases h62
   refine z0D ?_
   exact ⟨by omega,rfl,rfl⟩
  ·have hz:toGt (s.drop (i+j))=0:=toGt_zero.2 (.inr ⟨_,by rw [hdj,beq_iff_eq.1 h62]⟩)
   have hjt:j=toGt (s.drop i):=by omega
   refine z0D ?_
   exact ⟨m,by omega,i+j+1,d,rfl,rfl,by omega,by omega,by omega,by omega,by rw [←hx,←hjt,List.drop_drop,Nat.add_assoc]⟩
 rw [b2] at hx
 simp only [Bool.false_eq_true,if_false] at hx
 refine z0D ?_
 rw [e91]
 cases b3:(c==91)
 rotate_left
 ·rw [b3] at hx
  simp only [if_true] at hx
  refine z0D ?_
  refine z3X (a:=d) (b:=1) rfl rfl (by omega) (by omega) ?_
  refine z0D ?_
  exact ⟨m,by omega,i+1,d+1,rfl,rfl,by omega,by omega,by omega,by omega,hx⟩
 rw [b3] at hx
 simp only [Bool.false_eq_true,if_false] at hx
 refine z0D ?_
 rw [e93]
 cases b4:(c==93)
 rotate_left
 ·rw [b4] at hx
  simp only [if_true] at hx
  refine z0D ?_
  refine z3H (a:=d) (b:=1) rfl rfl (by omega) (by omega) ?_
  refine z0D ?_
  exact ⟨m,by omega,i+1,d-1,rfl,rfl,by omega,by omega,by omega,by omega,hx⟩
 rw [b4] at hx
 simp only [Bool.false_eq_true,if_false] at hx
 refine z0D ?_
 rw [e61]
 cases b5:(c==61)
 ·rw [b5] at hx
  simp only [Bool.false_and,Bool.false_eq_true,if_false] at hx
  refine z0D ?_
  exact ⟨m,by omega,i+1,d,rfl,rfl,by omega,by omega,by omega,by omega,hx⟩
 ·rw [b5] at hx
  simp only [Bool.true_and] at hx
  refine z0D ?_
  cases b6:(d==0)
  ·rw [b6] at hx
   simp only [Bool.false_eq_true,if_false] at hx
   refine z0D ?_
   exact ⟨m,by omega,i+1,d,rfl,rfl,by omega,by omega,by omega,by omega,hx⟩
  ·rw [b6] at hx
   simp only [if_true] at hx
   subst hx
   refine z0D ?_
   exact z1G rfl (z0N ⟨_,rfl⟩ (Plain.bool _))
theorem c176 (s:Bt) (hs:s.length≤100000) (H:Heap):ACall PP 176 [.str s] H (Just H (.int .i64 (depR s))):=by
 refine ACall.gives (is176.c1 z0V mixed rfl ?_)
 unfold depR
 generalize hx:depF (s.length+1) 0 s=xx
 refine z0D ?_
 refine z1S (fun m al H'=>∃ (i:Nat) (d:Int),al=[(0,.str s),(3,.int .i64 d),(4,.int .i64 i)]∧H'=H++[]∧-(i:Int)≤d∧d≤i∧s.length+1≤i+m∧i≤s.length+1∧depF m d (s.drop i)=xx) (s.length+1)
  ⟨0,0,rfl,rfl,by omega,by omega,by omega,by omega,hx⟩ ?_
 clear hx
 rintro m _ _ ⟨i,d,rfl,rfl,hd1,hd2,hm,hi,hx⟩
 refine z0D ?_
 cases hc:decide ((i:Int)<(s.length:Int))
 ·simp only [decide_eq_false_iff_not] at hc
  rw [List.drop_eq_nil_of_le (by omega),depF_nil] at hx
  subst hx
  refine z0D ?_
  exact z1G rfl (z0N ⟨_,rfl⟩ (Plain.int _ _))
 simp only [decide_eq_true_eq] at hc
 obtain ⟨c,hci⟩:=z1D (l:=s) (i:=i) (by omega)
 obtain ⟨hl,hdr⟩:=List.getElem?_eq_some_iff.1 hci
 have hdc:s.drop i=c::s.drop (i+1):=by rw [List.drop_eq_getElem_cons hl,hdr]
 cases m with
 | zero=>omega
 | succ m =>
 rw [hdc] at hx
 simp only [depF] at hx
 have e92:((c.toNat:Int)==92)=(c==92):=z1T c 92
 have e60:((c.toNat:Int)==60)=(c==60):=z1T c 60
 have e91:((c.toNat:Int)==91)=(c==91):=z1T c 91
 have e93:((c.toNat:Int)==93)=(c==93):=z1T c 93
 have e61:((c.toNat:Int)==61)=(c==61):=z1T c 61
 refine z0D ?_
 rw [e92]
 cases b1:(c==92)
 rotate_left
 ·rw [b1] at hx
  simp only [if_true] at hx
  refine z0D ?_
  exact ⟨m,by omega,i+1+1,d,rfl,rfl,by omega,by omega,by omega,by omega,by rw [←hx,List.drop_drop]⟩
 rw [b1] at hx
 simp only [Bool.false_eq_true,if_false] at hx
 refine z0D ?_
 rw [e60]
 cases b2:(c==60)
 rotate_left
 ·rw [b2] at hx
  simp only [if_true] at hx
  rw [←hdc] at hx
  have hgl:=toGt_le (s.drop i)
  rw [List.length_drop] at hgl
  refine z0D ?_
  refine z1F (toGt (s.drop i)) (fun j al H'=>H'=H++[]∧al=[(0,.str s),(3,.int .i64 d),(4,.int .i64 (i+j:Nat))]) ⟨rfl,rfl⟩ ?_
  rintro j _ _ hj ⟨rfl,rfl⟩
  have hta:=toGt_at hj
  rw [List.drop_drop] at hta
  refine z0D ?_
  cases hcj:decide (((i+j:Nat):Int)<(s.length:Int))
  ·simp only [decide_eq_false_iff_not] at hcj
   have hjt:j=toGt (s.drop i):=by omega
   refine z0D ?_
   exact ⟨m,by omega,i+j+1,d,rfl,rfl,by omega,by omega,by omega,by omega,by rw [←hx,←hjt,List.drop_drop,Nat.add_assoc]⟩
  simp only [decide_eq_true_eq] at hcj
  obtain ⟨c',hcj'⟩:=z1D (l:=s) (i:=i+j) (by omega)
  have hdj:s.drop (i+j)=c'::s.drop (i+j+1):=by
   obtain ⟨hl',hdr'⟩:=List.getElem?_eq_some_iff.1 hcj'
   rw [List.drop_eq_getElem_cons hl',hdr']
  have f62:((c'.toNat:Int) != 62) = !(c'==62):=by
   have:((c'.toNat:Int)==62)=(c'==62):=z1T c' 62
   rw [bne,this]
  refine z0D ?_
  rw [f62]
  cases h62:(c'==62)
  ·have hne:toGt (s.drop (i+j))≠0:=by
    intro h
    rcases toGt_zero.1 h with h | ⟨t,h⟩
    ·rw [hdj] at h;cases h
    ·rw [hdj] at h;injection h with h _;subst h;cases h62
   refine z0D ?_
   exact ⟨by omega,rfl,rfl⟩
  ·have hz:toGt (s.drop (i+j))=0:=toGt_zero.2 (.inr ⟨_,by rw [hdj,beq_iff_eq.1 h62]⟩)
   have hjt:j=toGt (s.drop i):=by omega
   refine z0D ?_
   exact ⟨m,by omega,i+j+1,d,rfl,rfl,by omega,by omega,by omega,by omega,by rw [←hx,←hjt,List.drop_drop,Nat.add_assoc]⟩
 rw [b2] at hx
 simp only [Bool.false_eq_true,if_false] at hx
 refine z0D ?_
 refine z1Y [(0,.str s),(3,.int .i64 d),(4,.int .i64 i),(35,.bool (c==91&&((s.drop (i+1)).take 1==[93])))] (H++[]) ?_ ?_
 ·rw [e91]
  cases b3:(c==91)
  ·refine z0D ?_
   exact z0S rfl rfl
  ·refine z0D ?_
   cases hc2:decide (((i+1:Nat):Int)<(s.length:Int))
   ·simp only [decide_eq_false_iff_not] at hc2
    have hz:s.drop (i+1)=[]:=List.drop_eq_nil_of_le (by omega)
    rw [hz]
    refine z0D ?_
    exact z0S rfl rfl
   ·simp only [decide_eq_true_eq] at hc2
    obtain ⟨c2,hc2'⟩:=z1D (l:=s) (i:=i+1) (by omega)
    have hdj:s.drop (i+1)=c2::s.drop (i+1+1):=by
     obtain ⟨hl',hdr'⟩:=List.getElem?_eq_some_iff.1 hc2'
     rw [List.drop_eq_getElem_cons hl',hdr']
    have f93:((c2.toNat:Int)==93)=(c2==93):=z1T c2 93
    have ht:((c2::s.drop (i+1+1)).take 1==[93])=(c2==93):=by
     show ([c2]==[93])=_
     cases h:(c2==93)
     ·simpa using h
     ·simpa using h
    rw [hdj,ht]
    refine z0D ?_
    rw [f93]
    cases h93:(c2==93)
    ·refine z0D ?_
     exact z0S rfl rfl
    ·refine z0D ?_
     exact z0S rfl rfl
 cases bb:(c==91&&((s.drop (i+1)).take 1==[93]))
 rotate_left
 ·rw [bb] at hx
  simp only [if_true] at hx
  refine z0D ?_
  exact ⟨m,by omega,i+1+1,d,rfl,rfl,by omega,by omega,by omega,by omega,by rw [←hx,List.drop_drop]⟩
 rw [bb] at hx
 simp only [Bool.false_eq_true,if_false] at hx
 refine z0D ?_
 rw [e91]
 cases b3:(c==91)
 rotate_left
 ·rw [b3] at hx
  simp only [if_true] at hx
  refine z0D ?_
  refine z3X (a:=d) (b:=1) rfl rfl (by omega) (by omega) ?_
  refine z0D ?_
  exact ⟨m,by omega,i+1,d+1,rfl,rfl,by omega,by omega,by omega,by omega,hx⟩
 rw [b3] at hx
 simp only [Bool.false_eq_true,if_false] at hx
 refine z0D ?_
 rw [e93]
 cases b4:(c==93)
 rotate_left
 ·rw [b4] at hx
  simp only [if_true] at hx
  refine z0D ?_
  refine z3H (a:=d) (b:=1) rfl rfl (by omega) (by omega) ?_
  refine z0D ?_
  exact ⟨m,by omega,i+1,d-1,rfl,rfl,by omega,by omega,by omega,by omega,hx⟩
 rw [b4] at hx
 simp only [Bool.false_eq_true,if_false] at hx
 refine z0D ?_
 exact ⟨m,by omega,i+1,d,rfl,rfl,by omega,by omega,by omega,by omega,hx⟩
theorem c248 (c:UInt8) (H:Heap):ACall PP 248 [.int .u8 c.toNat] H (Just H (.bool (isSig c))):=by
 refine ACall.gives (is248.c1 z0V mixed rfl ?_)
 have e1:decide ((c.toNat:Int)>32)=decide ((c.toNat:Int)≥33):=by simp only [decide_eq_decide];omega
 have e2:decide ((c.toNat:Int)<127)=decide ((c.toNat:Int)≤126):=by simp only [decide_eq_decide];omega
 unfold isSig
 rw [e1,e2]
 refine z0D ?_
 cases h1:decide ((c.toNat:Int)≥33)
 ·refine z0D ?_
  exact fr
 ·refine z0D ?_
  cases h2:decide ((c.toNat:Int)≤126)
  ·refine z0D ?_
   exact fr
  ·refine z0D ?_
   cases h3:((c.toNat:Int) != 60)
   ·refine z0D ?_
    exact fr
   ·refine z0D ?_
    exact fr
structure VY (P:Program) (I:List Nat) (base:Nat) (ios:List IOper) (B:List (List Nat)) (K:KL) (G:AV→Prop) (s:Sched) (al:AL) (H:Heap):Prop where
 h:∀ S:List Rd,(∀ r∈S,r.i∈I)→vsL P base ios B K G s S al H
section vy
variable {P:Program} {H:Heap} {al:AL} {Q:PL} {K:KL} {I:List Nat} {base:Nat} {ios:List IOper} {B:List (List Nat)} {Gp:AV→Prop} {s:Sched}
theorem z2J {i:Nat} {d:Option Nat} {op:DOp} {as_:List Arg} {r:Option Nat} (ho:ios[i]? =some ⟨d,.i (.d op),as_,none,r⟩) (hq:isQuiet ⟨d,.i (.d op),as_,none,r⟩=true)
  (h:VV P [⟨d,.i (.d op),as_,none,r⟩] al H (fun al' _=>VY P I base ios B K Gp s al' H) (fun _ _ _=>False)):VY P I base ios B K Gp (.quiet i s) al H:=by
 refine ⟨fun S hS=>?_⟩
 obtain ⟨v,rd,h1,h2⟩:=quiet_vop (K:=fun al' _=>VY P I base ios B K Gp s al' H) hq h.1
 have hrd:rd=none:=by
  cases rd with
  | none=>rfl
  | some q=>obtain ⟨n,x⟩:=q;exact (hx_d (O:=fun _=>False) v n x h1).elim
 subst hrd
 simp only [vsL,ho,h1]
 exact h2.1 _ hS
theorem vy_l {i:Nat} {o:IOper} (ho:ios[i]? =some o) (hq:isQuiet o=true) (h:VV P [o] al H (fun al' _=>VY P (i::I) base ios B K Gp s al' H) (fun _ _ _=>False)):VY P I base ios B K Gp (.quiet i s) al H:=by
 refine ⟨fun S hS=>?_⟩
 obtain ⟨v,rd,h1,h2⟩:=quiet_vop (K:=fun al' _=>VY P (i::I) base ios B K Gp s al' H) hq h.1
 simp only [vsL,ho,h1]
 refine h2.1 _ fun r hr=>?_
 cases rd with
 | none=>exact List.mem_cons_of_mem _ (hS r hr)
 | some q =>
  obtain ⟨n,u⟩:=q
  rcases List.mem_cons.1 hr with rfl | hr
  ·exact List.mem_cons_self
  ·exact List.mem_cons_of_mem _ (hS r hr)
theorem vy_b {i:Nat} {o:IOper} (ho:ios[i]? =some o) (hr:o.res=none) (hI:I.all (fun j=>(blen B i).contains j)=true) (hb:base≤H.length)
  (h:VV P [o] al H (fun al' H'=>VY P I base ios B K Gp s al' H') (fun _ v _=>Gp v)):VY P I base ios B K Gp (.branch i s .stop) al H:=by
 refine ⟨fun S hS=>?_⟩
 have hrr:rOf base o H=H.length:=by simp [rOf,hr]
 simp only [vsL,ho,hrr]
 refine ⟨⟨?_,Nat.ble_eq_true_of_le hb,?_⟩,trivial⟩
 ·simp [freeB]
 ·refine z5J.vopL_mono h.1 ?_ (fun _ _ _ q=>q)
  rintro al' H' q
  refine ⟨?_,q.1 S hS⟩
  unfold obligL
  rw [ho]
  simp only
  split
  ·trivial
  ·intro r hr hc
   have:=List.all_eq_true.1 hI r.i (hS r hr)
   rw [this] at hc;cases hc
theorem vy_done (h:K al H):VY P I base ios B K Gp .done al H:=⟨fun _ _=>h⟩
theorem iw_drawY {ks:List Nat} (h:VY P [] H.length ios B (fun a h=>Q .normal (keepL a ks) h) (fun _=>False) s al H):WI P (.draw 0 ios B s (some ks)) Q al H:=by
 refine ⟨⟨fun _=>False,fun _ _ f=>f.elim,?_⟩⟩
 have:reserve H 0=H:=by simp [reserve]
 rw [this]
 exact h.1 [] (by simp)
theorem z0M {J:List Nat} {H':Heap} {Qp:AL→AV→Heap→Prop} (h:VY P J base ios B K Gp s al H'):VV P [] al H (fun a _=>VY P J base ios B K Gp s a H') Qp:=⟨h⟩
theorem z2U {J:List Nat} {Qp:AL→AV→Heap→Prop} (h:VY P J base ios B K Gp s al H):VV P [] al H (fun a h=>VY P J base ios B K Gp s a h) Qp:=⟨h⟩
end vy
abbrev RE (s:Bt) (at_ nx:Nat) (kind:Int) (sym:Bt) (bad:Bool):Blk:=.cells [.str s,.int .i64 at_,.int .i64 nx,.int .i64 kind,.str sym,.bool bad]
def tkK (o:Option Bt):Int:=match o with
 | none=>4
 | some t=>if t==[] then 0 else if t==[61,62] then 2 else if t==[91,93] then 3 else match t with
  | [c]=>if isAl c then 1 else c.toNat
  | _=>1
def tkS (t:Bt):Bt:=if t.headD 0==92 then t.drop 1 else if t.headD 0==60 then (t.take (t.length-1)).drop 1 else t
end Go.Ab
