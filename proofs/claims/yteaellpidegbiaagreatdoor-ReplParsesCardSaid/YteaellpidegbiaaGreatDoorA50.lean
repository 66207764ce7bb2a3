/- Part 50 of the proof. ReplParses answers true for every text and leaves it as it was; conditions: the row's own (the two listed tables of utf8 read as laid). -/
import Derived.Test.YteaellpidegbiaaGreatDoorCards
import Derived.Test.YteaellpidegbiaaGreatDoorTie
import Derived.WalkKit
import Derived.ProofKit
import Derived.OpenShut
import Derived.Carry
import Derived.Deep.DeepHandedRow
import Derived.Lib.LaidTab
import Derived.ChangeSame
import Derived.Test.YteaellpidegbiaaGreatDoorA25
import Derived.Test.YteaellpidegbiaaGreatDoorA29
import Derived.Test.YteaellpidegbiaaGreatDoorA33
import Derived.Test.YteaellpidegbiaaGreatDoorA43
import Derived.Test.YteaellpidegbiaaGreatDoorA49
set_option linter.unusedVariables false
set_option linter.unusedSimpArgs false
namespace Go.Ab
open Go
theorem wordP_cut {s:Bt} (h:s≠[]):wordP s=cutR s:=by
 unfold wordP cutR
 rw [if_neg (by simpa using h)]
theorem wk_word (s:Bt):wkR s=(wordP s).isSome:=by
 unfold wkR
 by_cases h0:s=[]
 ·subst h0;rfl
 ·rw [wordP_cut h0]
  have e:(s==[])=false:=by simpa using h0
  rw [e]
  by_cases hb:s=[91,93]
  ·subst hb;rfl
  ·have:(s==[91,93])=false:=by simpa using hb
   rw [this];simp
theorem wd_word {s:Bt} {w:List Bt} (h:wordP s=some w):wdR s=⟨true,unB s w⟩:=by
 have h0:s≠[]:=by rintro rfl;cases h
 rw [wordP_cut h0] at h
 unfold wdR unB
 rw [h];rfl
theorem great_long {s:Bt} {w:List Bt} (h:wordP s=some w):greatW s=(decide ((s.length:Int)>400)||decide (((wdR s).l.length:Int)>60)):=by
 unfold greatW
 rw [wd_word h,h]
 unfold unB
 simp only [Option.getD_some]
 by_cases hb:s=[91,93]
 ·subst hb
  have:wordP [91,93]=some [[91],[93]]:=by rfl
  rw [this] at h
  injection h with h
  subst h;rfl
 ·have:(s==[91,93])=false:=by simpa using hb
  rw [this];rfl
def tailP (l:List Bt) (k:Int) (prs:List Pr) (q:Nat) (g:Bool):Option (Ru × Bool) :=
 if q==l.length then some (⟨k,true,prs,true,[],false⟩,g) else
 if l.getD q []==[124,124] then match plcP l (q+1) with
  | none=>none
  | some (ps,h)=>some (⟨k,true,prs,true,ps,false⟩,g||h)
 else if l.getD q []==[47,47] then match plcP l (q+1) with
  | none=>none
  | some (ps,h)=>some (⟨k,true,prs,true,ps,true⟩,g||h)
 else none
theorem pairs_same (l:List Bt):∀ (n p:Nat) (kd:Int) (prs:List Pr) (lg:Bool),p≤l.length →
  match prR l n p kd prs lg with
  | none=>ruleF l n p kd prs (lg||prs.any longW)=none
  | some (k,prs',q,lg')=>ruleF l n p kd prs (lg||prs.any longW)=tailP l k prs' q (lg'||prs'.any longW)∧q≤l.length
 | 0,p,kd,prs,lg,_=>rfl
 | n+1,p,kd,prs,lg,hp=>by
  rw [prR]
  by_cases h1:p<l.length
  rotate_left
  ·have e1:decide (p<l.length)=false:=decide_eq_false h1
   have e2:l.getD p []=[]:=by rw [List.getD_eq_getElem?_getD,List.getElem?_eq_none (by omega)];rfl
   rw [e1]
   simp only [Bool.false_and,Bool.not_false,Bool.true_or,if_true]
   rw [ruleF,e2];rfl
  have p1:pcA l p=p+1:=by unfold pcA;rw [if_pos h1]
  rw [p1,decide_eq_true h1]
  cases hw1:wordP (l.getD p []) with
  | none =>
   have e:wkR (l.getD p [])=false:=by rw [wk_word,hw1];rfl
   rw [e]
   simp only [Bool.and_false,Bool.false_and,Bool.not_false,Bool.true_or,if_true]
   rw [ruleF,hw1]
  | some w1 =>
  have e1:wkR (l.getD p [])=true:=by rw [wk_word,hw1];rfl
  rw [e1]
  by_cases h2:p+1<l.length
  rotate_left
  ·have e2:decide (p+1<l.length)=false:=decide_eq_false h2
   have e3:l.getD (p+1) []=[]:=by rw [List.getD_eq_getElem?_getD,List.getElem?_eq_none (by omega)];rfl
   rw [e2]
   simp only [Bool.and_false,Bool.false_and,Bool.not_false,Bool.true_or,if_true]
   rw [ruleF,hw1,e3];rfl
  have p2:pcA l (p+1)=p+2:=by unfold pcA;rw [if_pos h2]
  rw [p2,decide_eq_true h2]
  by_cases h3:p+2<l.length
  rotate_left
  ·have e2:decide (p+2<l.length)=false:=decide_eq_false h3
   have e3:l.getD (p+2) []=[]:=by rw [List.getD_eq_getElem?_getD,List.getElem?_eq_none (by omega)];rfl
   rw [e2]
   simp only [Bool.and_false,Bool.false_and,Bool.not_false,Bool.true_or,if_true]
   rw [ruleF,hw1]
   simp only
   split
   ·rfl
   ·rw [e3];rfl
  have p3:pcA l (p+2)=p+3:=by unfold pcA;rw [if_pos h3]
  rw [p3,decide_eq_true h3]
  cases hw2:wordP (l.getD (p+2) []) with
  | none =>
   have e:wkR (l.getD (p+2) [])=false:=by rw [wk_word,hw2];rfl
   rw [e]
   simp only [Bool.and_false,Bool.false_and,Bool.not_false,Bool.true_or,if_true]
   rw [ruleF,hw1]
   simp only
   split
   ·rfl
   ·rw [hw2]
  | some w2 =>
  have e2:wkR (l.getD (p+2) [])=true:=by rw [wk_word,hw2];rfl
  rw [e2]
  have gl1:=great_long hw1
  have gl2:=great_long hw2
  have wd1:=wd_word hw1
  have wd2:=wd_word hw2
  rw [ruleF,hw1]
  simp only
  rw [hw2]
  simp only
  generalize hk:kOf (l.getD (p+1) [])=k at *
  have ek:decide (k≥0) = !decide (k<0):=by
   by_cases h:k<0
   ·rw [decide_eq_true h,decide_eq_false (by omega)];rfl
   ·rw [decide_eq_false h,decide_eq_true (by omega)];rfl
  have ekd:(kd != k)=(k != kd):=by rw [bne,bne,Bool.eq_iff_iff];simp only [Bool.not_eq_true',beq_eq_false_iff_ne,ne_eq];omega
  simp only [Bool.true_and,ek,Bool.not_not,ekd]
  generalize (decide (k<0)||decide (kd≥0)&&k != kd)=cnd
  cases cnd
  rotate_left
  ·rfl
  ·simp only [Bool.false_eq_true,if_false]
   have hg:(lg||prs.any longW||greatW (l.getD p [])||greatW (l.getD (p+2) []))=(lg||decide (((l.getD p []).length:Int)>400)||decide (((l.getD (p+2) []).length:Int)>400)||(prs++[(⟨wdR (l.getD p []),wdR (l.getD (p+2) [])⟩:Pr)]).any longW):=by
    rw [gl1,gl2,List.any_append]
    simp only [List.any_cons,List.any_nil,Bool.or_false,longW]
    generalize decide (((l.getD p []).length:Int)>400)=a
    generalize decide (((l.getD (p+2) []).length:Int)>400)=b
    generalize decide (((wdR (l.getD p [])).l.length:Int)>60)=c
    generalize decide (((wdR (l.getD (p+2) [])).l.length:Int)>60)=d
    generalize prs.any longW=e
    cases lg<;>cases a<;>cases b<;>cases c<;>cases d<;>cases e<;>rfl
   rw [←wd1,←wd2,hg]
   by_cases hend:p+3=l.length
   ·have e3:(p+3==l.length)=true:=by simpa using hend
    have e4:decide (p+3<l.length)=false:=decide_eq_false (by omega)
    rw [e4,e3]
    simp only [Bool.false_and,Bool.false_eq_true,if_false,if_true]
    refine ⟨?_,by omega⟩
    unfold tailP
    rw [e3];rfl
   ·have e3:(p+3==l.length)=false:=by simpa using hend
    have e4:decide (p+3<l.length)=true:=decide_eq_true (by omega)
    rw [e4,e3]
    simp only [Bool.true_and,Bool.false_eq_true,if_false]
    cases hc:(l.getD (p+3) []==[44])
    ·simp only [Bool.false_eq_true,if_false]
     refine ⟨?_,by omega⟩
     unfold tailP
     rw [e3];rfl
    ·simp only [if_true]
     exact pairs_same l n (p+4) k _ _ (by omega)
theorem rp_same (s:Bt):rpP s=rpR s:=by
 unfold rpP rpR
 cases hl:decide ((s.length:Int)>6000)
 rotate_left
 ·rfl
 simp only [Bool.false_eq_true,if_false]
 have hs:s.length≤6000:=by simp at hl;omega
 have hb:∀ y∈spl s,∀ c∈y,c≠32:=fun y hy=>spl_free hy
 have hj:=z3K s
 generalize spl s=l at *
 have hp:=pairs_same l (l.length+1) 0 (-1) [] false (by omega)
 have e0:(false||([]:List Pr).any longW)=false:=rfl
 rw [e0] at hp
 unfold ruleP wholeR
 cases hpr:prR l (l.length+1) 0 (-1) [] false with
 | none=>rw [hpr] at hp;simp only at hp;rw [hp]
 | some x =>
 obtain ⟨k,prs,q,lg⟩:=x
 rw [hpr] at hp
 simp only at hp
 obtain ⟨hp,hq⟩:=hp
 rw [hp]
 unfold tailP
 simp only
 have fin:∀ (r:Ru),r.pairs=prs→(if (lg||prs.any longW)=true then (Ru0,(3:Int)) else if (vrule r != 0)=true then (Ru0,vrule r) else (r,0)) =
   (if (lg||r.pairs.any longW)=true then (Ru0,3) else if ((if (vrule2 r != 3&&(0:Int) != 0)=true then 0 else vrule2 r) != 0)=true then (Ru0,if (vrule2 r != 3&&(0:Int) != 0)=true then 0 else vrule2 r) else (r,0)):=by
  intro r hr
  rw [hr,vrule_eq]
  have:(vrule r != 3&&(0:Int) != 0)=false:=by simp
  rw [this];rfl
 have bad:∀ (r:Ru),r.pairs=prs→(Ru0,(3:Int))=(if (lg||r.pairs.any longW)=true then (Ru0,3) else if ((if (vrule2 r != 3&&(3:Int) != 0)=true then 3 else vrule2 r) != 0)=true then (Ru0,if (vrule2 r != 3&&(3:Int) != 0)=true then 3 else vrule2 r) else (r,0)):=by
  intro r hr
  split
  ·rfl
  ·have:(if (vrule2 r != 3&&(3:Int) != 0)=true then (3:Int) else vrule2 r)=3:=by
    split
    ·rfl
    ·rename_i h
     have:(vrule2 r != 3)=false:=by simpa using h
     simpa using this
   rw [this];rfl
 by_cases hend:q=l.length
 ·have e3:(q==l.length)=true:=by simpa using hend
  rw [e3]
  simp only [if_true]
  exact fin _ rfl
 have e3:(q==l.length)=false:=by simpa using hend
 have e4:decide (q<l.length)=true:=decide_eq_true (by omega)
 rw [e3,e4]
 simp only [Bool.true_and,Bool.false_eq_true,if_false]
 have hpl:match plcP l (q+1) with
   | none=>plsR (l.length+1) (l.drop (q+1)) [] 0=none
   | some (P,g)=>∃ Q,plsR (l.length+1) (l.drop (q+1)) [] 0=some (Q,if g then 3 else 0)∧(g=false→P=Q):=by
  unfold plcP
  by_cases h:q+1=l.length
  ·have e:(q+1==l.length)=true:=by simpa using h
   have ed:l.drop (q+1)=[]:=List.drop_of_length_le (by omega)
   rw [e,ed]
   simp only [if_true]
   rw [plsR];rfl
  ·have e:(q+1==l.length)=false:=by simpa using h
   rw [e]
   simp only [Bool.false_eq_true,if_false]
   refine places_same pe_vexpr ?_ (fun y hy=>hb y (List.mem_of_mem_drop hy)) (Nat.le_trans (hj _) hs) (by rw [List.length_drop];omega)
   intro e
   have:=congrArg List.length e
   rw [List.length_drop,List.length_nil] at this
   omega
 cases hpc:plcP l (q+1) with
 | none =>
  rw [hpc] at hpl
  simp only at hpl
  rw [hpl]
  simp only
  cases (l.getD q []==[124,124])<;>cases (l.getD q []==[47,47])<;>rfl
 | some y =>
  obtain ⟨P,g⟩:=y
  rw [hpc] at hpl
  obtain ⟨Q,hQ,hPQ⟩:=hpl
  rw [hQ]
  simp only
  have hcl:(l.getD q []==[124,124])=true→(l.getD q []==[47,47])=false:=by
   intro h
   have:l.getD q []=[124,124]:=by simpa using h
   rw [this];rfl
  cases g
  ·rw [hPQ rfl]
   simp only [Bool.or_false,Bool.false_eq_true,if_false]
   cases h1:(l.getD q []==[124,124])
   ·cases h2:(l.getD q []==[47,47])
    ·rfl
    ·exact fin _ rfl
   ·rw [hcl h1]
    exact fin _ rfl
  ·simp only [Bool.or_true,if_true]
   cases h1:(l.getD q []==[124,124])
   ·cases h2:(l.getD q []==[47,47])
    ·rfl
    ·exact bad _ rfl
   ·rw [hcl h1]
    exact bad _ rfl
end Go.Ab
namespace Go.Ab
open Go
set_option maxRecDepth 100000
set_option maxHeartbeats 8000000
theorem okR_Ru0:okR Ru0:=⟨by simp [Ru0],by simp [Ru0],by simp [Ru0],by simp [Ru0]⟩
theorem rpR_ok (s:Bt):okR (rpR s).1:=by
 unfold rpR
 split
 ·exact okR_Ru0
 ·rename_i hl
  have hs:s.length≤6000:=by simp at hl;omega
  have hls:∀ y∈spl s,y.length≤6000:=fun y hy=>Nat.le_trans (z5G hy) hs
  have hsl:=spl_le s
  split
  ·exact okR_Ru0
  ·rename_i r bad lg h
   have hok:=wholeR_ok hls (by omega) h
   split
   ·exact okR_Ru0
   ·generalize (if (vrule2 r != 3&&bad != 0)=true then bad else vrule2 r)=ee
    split
    ·exact okR_Ru0
    ·exact hok
theorem c3 (s:Bt) (H:Heap):ACall PP 3 [.str s] H (Just H (.bool true)):=by
 have hf:ACall PP 3 [.str s] H (fun r H'=>∃ v,r=.ret v∧v=.bool true∧H'=H):=by
  refine ACall.forgetE (fun v h=>by subst h;exact Plain.bool _) ?_
  refine is3.c1 z0V mixed rfl ?_
  rw [List.append_nil]
  refine z0D ?_
  cases hl:decide ((s.length:Int)>24000)
  rotate_left
  ·refine z0D ?_
   refine z0G rfl (known_call _) ?_
   refine z0D ?_
   exact z1G rfl ⟨_,rfl,rfl,[],by simp⟩
  have hs:s.length≤24000:=by simp at hl;omega
  refine z0D ?_
  refine z1H rfl (c6 s _) ?_ ?_
  rotate_left
  ·rintro v H' ⟨v',hv,_⟩;cases hv
  rintro v H' ⟨v',hv,⟨n,rfl,hn,hn2⟩,rfl⟩
  cases hv
  have k7:=c7 s
  have hsame:=rp_same s
  have hok:=rpR_ok s
  rw [hsame] at hn2 ⊢
  obtain ⟨⟨r,e⟩,hre⟩:∃ x,rpR s=x:=⟨_,rfl⟩
  rw [hre] at hn2 k7 hok ⊢
  simp only at hn2 k7 hok ⊢
  have k8:=c8 r hok
  have hrE:encR r=.agg [.int .i64 r.kind,encPs r.pn r.pairs,encLs r.ln r.places,.bool r.below]:=rfl
  have hsc:([.int .i64 r.kind,encPs r.pn r.pairs,encLs r.ln r.places,.bool r.below]:List AV).all AV.scalar=true:=by
   have h1:AV.scalar (encPs r.pn r.pairs)=true:=by unfold encPs;split<;>rfl
   simp only [List.all_cons,h1,scalar_Ls,List.all_nil];rfl
  generalize encPs r.pn r.pairs=a1 at *
  generalize encLs r.ln r.places=a2 at *
  rw [hrE] at k7 k8 ⊢
  have e1:=ints_same e
  have e2:decide ((n:Int)<0)=false:=decide_eq_false (by omega)
  have e3:decide ((n:Int)>((spl s).length:Int))=false:=decide_eq_false (by omega)
  refine z0D ?_
  refine z0T rfl rfl rfl rfl rfl hsc ?_
  have h3:(H'++[Blk.cells [.int .i64 r.kind,a1,a2,.bool r.below]])[H'.length]? =some (.cells [.int .i64 r.kind,a1,a2,.bool r.below]):=z0K
  have hl1:(H'++[Blk.cells [.int .i64 r.kind,a1,a2,.bool r.below]]:Heap).length=H'.length+1:=by simp
  have hE:∃ G,(H'++[Blk.cells [.int .i64 r.kind,a1,a2,.bool r.below]]:Heap)=H'++G:=⟨_,rfl⟩
  generalize (H'++[Blk.cells [.int .i64 r.kind,a1,a2,.bool r.below]]:Heap)=X at *
  refine z0D ?_
  refine z0G rfl (k7 _) ?_
  refine z0D ?_
  refine z0T rfl rfl rfl rfl rfl hsc ?_
  have h32:=z0F (G:=[Blk.cells [.int .i64 r.kind,a1,a2,.bool r.below]]) h3
  have h6:(X++[Blk.cells [.int .i64 r.kind,a1,a2,.bool r.below]])[X.length]? =some (.cells [.int .i64 r.kind,a1,a2,.bool r.below]):=z0K
  have hE2:∃ G,(X++[Blk.cells [.int .i64 r.kind,a1,a2,.bool r.below]]:Heap)=H'++G:=by
   obtain ⟨G,rfl⟩:=hE
   exact ⟨G++[Blk.cells [.int .i64 r.kind,a1,a2,.bool r.below]],by simp⟩
  generalize (X++[Blk.cells [.int .i64 r.kind,a1,a2,.bool r.below]]:Heap)=Y at *
  refine z0D ?_
  refine z0G rfl (k8 _) ?_
  refine z0D ?_
  refine z1Y [(49,.bool false)] Y ?_ ?_
  ·cases b1:(e != 2)
   ·refine z0D ?_
    refine z0G rfl (c9 s (by omega) _) ?_
    refine z0D ?_
    exact z0S (by simp only [e3];rfl) rfl
   ·have hn0:n=0:=hn2 (by simpa using b1)
    have e4:((n:Int) != 0)=false:=by rw [hn0];rfl
    refine z0D ?_
    refine z0G rfl (c9 s (by omega) _) ?_
    refine z0D ?_
    exact z0S (by simp only [e3];rfl) rfl
  refine z0D ?_
  refine z0G rfl (known_call _) ?_
  refine z0D ?_
  exact z1G rfl ⟨_,rfl,rfl,hE2⟩
 exact hf.mono fun r H' h=>by
  obtain ⟨v,h1,h2,h3⟩:=h
  exact ⟨by rw [h1,h2],h3⟩
end Go.Ab
namespace Go.Proofs.YteaellpidegbiaaGreatDoor
open Go.ChangeShapes Go.WideShapes Go.ChangeAt Go.RowKit Go.Ab
theorem laidOut3:laidOutB Tryz.prog=true:=by kernel_rfl
set_option maxRecDepth 100000 in
theorem laid_met3 (os:Os) (v:Value):laidMet Tryz.prog Rows.replParsesRow.laid ((laidWorld os).forCall (fun _ _=>0) ⟨#[],#[v],[]⟩).memory :=
 laidMet_of_run' 8 (by kernel_rfl) (by kernel_rfl)
set_option maxRecDepth 100000 in
theorem reads3 (os:Os) {H:Type} (enc':TypeId × Value→H):∃ places,DataW.whole enc' Tryz.prog ((laidWorld os).forCall (fun _ _=>0) ⟨#[],#[.string ⟨#[]⟩],[]⟩).memory Tryz.f3.params.toList Rows.replParsesSpec.vars false #[Value.string ⟨#[]⟩].toList 8 =
  some ([.lit (.string [])],[],places) :=
 ⟨[],by kernel_rfl⟩
set_option maxRecDepth 1000000 in
theorem contract3 (H:Type) (enc':TypeId × Value→H) (W:World) (base:Nat) (args:Array Value) (ds gs:List (DataW H)) (before:List MemPlace)
  (hval:∀ (j:Nat) t v,Tryz.f3.params[j]? =some t→args[j]? =some v→Value.okWide Tryz.prog W .any base t v)
  (hW:DataW.Whole enc' Tryz.prog Tryz.f3.params.toList Rows.replParsesSpec.vars false W args.toList ds gs before) :
  Calls Tryz.prog 3 args W fun e W'=>∃ v,e=.returned v∧Rows.replParsesSpec.post enc' Tryz.prog Tryz.f3 false true false false W args v W':=by
 have hW':=hW
 obtain ⟨p,q,hA0,hV,rfl,hfz,hnd⟩:=hW
 have hA:DataW.TrodAll enc' Tryz.prog W 0 (fun _=>true) true Tryz.f3.params.toList args.toList ds p:=hA0
 rw [Tryz.params3] at hA hval
 obtain ⟨v0,d0,rfl,rfl,h0⟩:=trodAll_one hA
 obtain ⟨rfl,rfl⟩:=trodVars_none hV
 obtain ⟨s,rfl,rfl,rfl,hs⟩:=Go.ChangeMaps.open_string Tryz.underlying9 (hval 0 9 v0 (by simp) (by simp)) h0
 obtain ⟨fuel,hf⟩:=h0
 have hc:CRel phi0 (sigW W) [.str s.data.toList] #[.string s]:=by
  refine ⟨rfl,fun i=>?_⟩
  match i with
  | 0=>exact .str _ _ rfl
  | i+1=>exact .top _
 refine (c3 s.data.toList [] phi0 (sigW W) _ W (hrel0 W) hc).mono ?_
 rintro e W' ⟨φ',σ',rr,H',st,kp,hrr,rfl,rfl⟩
 obtain ⟨c,rfl,hv⟩:=hrr
 cases hv
 have hbel:Below W.heap.size W W':=⟨st.os,st.tape,st.output,st.size,fun k hk=>st.frame k hk (by rintro ⟨id,b,L,h,_⟩;simp at h)⟩
 have hag:DataW.TrodAll enc' Tryz.prog W' 0 (fun b=>decide (b<W.heap.size)) true Tryz.f3.params.toList [Value.string s] [.lit (.string s.data.toList)] []:=by
  rw [Tryz.params3]
  exact trodAll_mk1 (Below.trod laidOut3 (by kernel_rfl) (of_decide_eq_true (by kernel_rfl)) ⟨fuel,hf⟩ hbel (fun x hx=>by simp at hx))
 exact ⟨_,rfl,[.lit (.string s.data.toList)],[],[]++[],[],[],[],hW',trodAll_mk1 (shut_bool Tryz.underlying4 _),hag,rfl,World.keptBut_mono (fun x hx=>⟨hx,Or.inr (List.mem_append.1 hx)⟩) (hbel.frame (·∈[]++[])),fun h=>by cases h⟩
set_option maxRecDepth 100000 in
theorem lifted3 (os:Os) (started:os.Started) (H:Type) (enc':TypeId × Value→H) (F:Stop.Interp) :
  ReturnsInHanded {} Tryz.checked os 3 .any ((OpenSpec.ofChange Rows.replParsesSpec).preRow enc' Tryz.prog Tryz.f3 Rows.replParsesRow.domain false Rows.replParsesRow.laid) (((OpenSpec.ofChange Rows.replParsesSpec).at F).post enc' Tryz.prog Tryz.f3 false true false false):=by
 obtain ⟨places,hx⟩:=reads3 os enc'
 refine returnsInHanded_of_row (C:=Tryz.checked) (s:=OpenSpec.ofChange Rows.replParsesSpec) own started (by kernel_rfl) Tryz.func3
  (witness_row_at (enc:=enc') (C:=Tryz.checked) false (laidWorld os) #[.string ⟨#[]⟩] rfl (by kernel_rfl) (by kernel_rfl) (by kernel_rfl)
   (OpenSpec.preRow_of_cond 8 hx (by kernel_rfl) (fun k hk=>by cases hk) (by kernel_rfl) (laid_met3 os _))) ?_
 intro W base args ds gs before hval hW _ _ _ _ _ _
 exact contract3 H enc' W base args ds gs before hval hW
set_option maxRecDepth 100000 in
theorem said3:Rows.ReplParsesSaid :=
 OpenClaim.holds_of_cond 3 Tryz.f3 rfl rfl rfl rfl rfl rfl rfl ⟨rfl,rfl,rfl,rfl,rfl⟩ rfl rfl rfl rfl rfl (by kernel_rfl) Tryz.func3 (by kernel_rfl)
  (of_decide_eq_true (by kernel_rfl)) (by unfold Func.isWrapper;first | (rw [if_pos (by decide +kernel)];kernel_rfl) | (rw [if_neg (by decide +kernel)];exact ⟨rfl,rfl⟩))
  (fun os started H enc' _ F=>by rw [OpenClaim.pre_eq_preRow];exact lifted3 os started H enc' F)
theorem plain3 (f:FuncId) (fn:Func) (hf:Tryz.pinned.checked.prog.funcNamed "ablaut/ablautlaw07.ReplParses" = some f) (hfn:Tryz.pinned.checked.prog.funcs[f]? =some fn) :
  true=Tryz.pinned.checked.prog.looks []∧∀ (j:Nat) t,fn.params[j]? =some t→Tryz.pinned.checked.prog.wantsStandIn t=false:=by
 obtain rfl:f=3:=Option.some.inj ((show Tryz.prog.funcNamed "ablaut/ablautlaw07.ReplParses" = some 3 by kernel_rfl).symm.trans hf) |>.symm
 obtain rfl:fn=Tryz.f3:=(Option.some.inj (Tryz.func3.symm.trans hfn)).symm
 refine ⟨by kernel_rfl,fun j t ht=>?_⟩
 rw [Tryz.params3] at ht
 obtain rfl:t=9:=by simpa using Array.mem_of_getElem? ht
 exact (show Tryz.prog.wantsStandIn 9=false by kernel_rfl)
theorem replParses_card:Rows.ReplParsesCardSaid :=
 Claim7.holds_tied_plain_at .later [] _ _ _ _ said3 (fun _ h=>by cases h) (by kernel_rfl) (fun _ h=>by cases h) replParses_row_tie rfl ⟨rfl,rfl⟩ (by kernel_rfl) rfl plain3 (by kernel_rfl)
#print axioms replParses_card
end Go.Proofs.YteaellpidegbiaaGreatDoor
