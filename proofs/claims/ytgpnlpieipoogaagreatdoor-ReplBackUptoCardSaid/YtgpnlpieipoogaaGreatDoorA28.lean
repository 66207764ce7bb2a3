/- Part 28 of the proof. -/
import Derived.KernelRfl
import Derived.Test.YtgpnlpieipoogaaGreatDoorA19
import Derived.Test.YtgpnlpieipoogaaGreatDoorA27
set_option linter.unusedVariables false
set_option linter.unusedSimpArgs false
namespace Go.Ab
open Go
theorem mixed:Go.Proofs.Tryz.prog.follows .mixedOrders=true:=by kernel_rfl
def noNumB (P:Program):Bool:=P.funcs.toList.all fun fn=>!(fn.name == "runtime.NumGoroutine")
theorem noNum_of {P:Program} (h:noNumB P=true):NoNum P:=by
 intro f fn hf
 unfold noNumB at h
 rw [List.all_eq_true] at h
 have:=h fn (by rw [Array.mem_toList_iff];exact Array.mem_of_getElem? hf)
 simpa using this
theorem z0W:NoNum Go.Proofs.Tryz.prog:=noNum_of (by kernel_rfl)
end Go.Ab
namespace Go.Ab
open Go
set_option maxRecDepth 100000
noncomputable abbrev QQ:Program:=Go.Proofs.Tryz.prog
noncomputable def c211_0:Code:=match Proofs.Tryz.f150.body with | some (.seq c _)=>c | _=>.skip
noncomputable def c211_A:Code:=match Proofs.Tryz.f150.body with | some (.seq _ (.seq c _))=>c | _=>.skip
noncomputable def o211_1:Oper:=match Proofs.Tryz.f150.body with | some (.seq _ (.seq _ (.seq (.region _ ops _) _)))=>ops.getD 0 default | _=>default
noncomputable def o211_2:Oper:=match Proofs.Tryz.f150.body with | some (.seq _ (.seq _ (.seq (.region _ ops _) _)))=>ops.getD 1 default | _=>default
noncomputable def c211_R:Code:=match Proofs.Tryz.f150.body with | some (.seq _ (.seq _ (.seq _ c)))=>c | _=>.skip
theorem body211:Proofs.Tryz.f150.body=some (.seq c211_0 (.seq c211_A (.seq (.region 3 #[o211_1,o211_2] false) c211_R))):=by kernel_rfl
def ic211_0:IC:=.region [⟨(some 2),(.i (.m (.alloc [(.int .i64 0),(.str []),.nilslice]))),[],none,none⟩,⟨(some 3),(.i (.m (.alloc [(.int .i64 0)]))),[],none,none⟩,⟨(some 4),(.i (.m (.alloc [(.int .i64 0)]))),[],none,none⟩] (some [0,2,3,4])
def ic211_A:IC:=.seq (.region [⟨(some 7),(.i (.d .move)),[(.tmp 0)],none,none⟩,⟨(some 8),(.i (.d .lenStr)),[(.tmp 7)],none,none⟩,⟨(some 9),(.i (.d (.bin .gtr))),[(.tmp 8),(.const (.int .i64 6000))],none,none⟩] (some [0,2,3,4,9])) (.cond (.tmp 9) (.seq (.region [⟨(some 10),(.i (.d (.build [(.int .i64 0),(.str []),.nilslice] []))),[],none,none⟩,⟨none,(.i (.m (.store 3))),[(.tmp 2),(.tmp 10)],none,none⟩,⟨none,(.i (.m (.store 1))),[(.tmp 3),(.const (.int .i64 0))],none,none⟩,⟨none,(.i (.m (.store 1))),[(.tmp 4),(.const (.int .i64 3))],none,none⟩] (some [2,3,4])) .ret) .skip)
def ic211_R:IC:=.seq (.region [⟨(some 12),(.i (.d .move)),[(.tmp 0)],none,none⟩,⟨(some 13),(.i (.d (.build [(.str []),(.int .i64 0)] [(0,1)]))),[(.tmp 12)],none,none⟩,⟨(some 14),(.i (.m .box)),[(.tmp 13)],none,none⟩,⟨(some 5),(.i (.d .move)),[(.tmp 14)],none,none⟩] (some [2,3,4,5])) (.seq (.region [⟨(some 15),(.i (.d .move)),[(.tmp 5)],none,none⟩,⟨(some 16),(.callF 174),[(.tmp 15)],none,none⟩,⟨none,(.i (.m (.store 3))),[(.tmp 2),(.tmp 16)],none,none⟩] (some [2,3,4,5])) (.seq (.seq (.region [⟨(some 17),(.i (.d .move)),[(.tmp 5)],none,none⟩,⟨(some 18),(.callF 175),[(.tmp 17)],none,none⟩,⟨(some 19),(.i (.d (.bin .neq))),[(.tmp 18),(.const (.str []))],none,none⟩] (some [2,3,4,5,19])) (.cond (.tmp 19) (.region [⟨(some 20),(.i (.d .move)),[(.tmp 5)],none,none⟩,⟨(some 21),(.i (.d .nilCheck)),[(.tmp 20)],none,none⟩,⟨(some 22),(.i (.d (.fieldAddr 1))),[(.tmp 21)],none,none⟩,⟨(some 23),(.i (.m (.load none))),[(.tmp 22)],none,none⟩,⟨(some 24),(.i (.d (.build [(.int .i64 0)] [(0,1)]))),[(.tmp 23)],none,none⟩,⟨(some 25),(.i (.d (.mkIface 242))),[(.tmp 24)],none,none⟩,⟨none,.panic,[(.tmp 25)],none,none⟩] (some [2,3,4])) .skip)) (.seq (.seq (.region [⟨(some 26),(.i (.m (.load (some 3)))),[(.tmp 2)],none,none⟩,⟨(some 27),(.callF 28),[(.tmp 26)],none,none⟩,⟨(some 6),(.i (.d .move)),[(.tmp 27)],none,none⟩] (some [2,3,4,6])) (.seq (.region [⟨(some 28),(.i (.d .move)),[(.tmp 6)],none,none⟩,⟨(some 29),(.i (.d (.bin .neq))),[(.tmp 28),(.const (.int .i64 0))],none,none⟩] (some [2,3,4,6,29])) (.cond (.tmp 29) (.seq (.region [⟨(some 30),(.i (.d (.build [(.int .i64 0),(.str []),.nilslice] []))),[],none,none⟩,⟨(some 31),(.i (.d .move)),[(.tmp 6)],none,none⟩,⟨none,(.i (.m (.store 3))),[(.tmp 2),(.tmp 30)],none,none⟩,⟨none,(.i (.m (.store 1))),[(.tmp 3),(.const (.int .i64 0))],none,none⟩,⟨none,(.i (.m (.store 1))),[(.tmp 4),(.tmp 31)],none,none⟩] (some [2,3,4])) .ret) .skip))) (.seq (.region [⟨(some 32),(.i (.m (.load (some 3)))),[(.tmp 2)],none,none⟩,⟨none,(.i (.m (.store 3))),[(.tmp 2),(.tmp 32)],none,none⟩,⟨none,(.i (.m (.store 1))),[(.tmp 3),(.const (.int .i64 0))],none,none⟩,⟨none,(.i (.m (.store 1))),[(.tmp 4),(.const (.int .i64 0))],none,none⟩] (some [2,3,4])) .ret))))
theorem cc211_0:cCode QQ 33 c211_0 [.plain (some [0,2,3,4])]=some (ic211_0,[]):=by kernel_rfl
theorem cc211_A:cCode QQ 33 c211_A [.plain (some [0,2,3,4,9]),.plain (some [2,3,4])]=some (ic211_A,[]):=by kernel_rfl
theorem cc211_R:cCode QQ 33 c211_R [.plain (some [2,3,4,5]),.plain (some [2,3,4,5]),.plain (some [2,3,4,5,19]),.plain (some [2,3,4]),.plain (some [2,3,4,6]),.plain (some [2,3,4,6,29]),.plain (some [2,3,4]),.plain (some [2,3,4])]=some (ic211_R,[]):=by kernel_rfl
def rs211:List RV:=[(.cell 2 (some 3)),(.cell 3 none),(.cell 4 none)]
theorem crv211:cRV QQ Proofs.Tryz.f150.results.toList=some rs211:=by kernel_rfl
noncomputable def o237_0:Oper:=match Proofs.Tryz.f173.body with | some (.seq (.region _ ops _) _)=>ops.getD 0 default | _=>default
noncomputable def os237:List Oper:=match Proofs.Tryz.f173.body with | some (.seq (.region _ ops _) _)=>ops.toList.drop 1 | _=>default
noncomputable def ops237:Array Oper:=match Proofs.Tryz.f173.body with | some (.seq (.region _ ops _) _)=>ops | _=>default
noncomputable def c237_R:Code:=match Proofs.Tryz.f173.body with | some (.seq _ c)=>c | _=>.skip
theorem body237:Proofs.Tryz.f173.body=some (.seq (.region 0 ops237 false) c237_R):=by kernel_rfl
def ios237:List IOper:=[⟨(some 7),(.i (.d (.assertTo 242 true (.agg [(.int .i64 0)])))),[(.tmp 6)],none,none⟩,⟨(some 5),(.i (.d .move)),[(.tmp 7)],none,none⟩,⟨(some 8),(.i (.d (.extract 0))),[(.tmp 5)],none,none⟩,⟨(some 9),(.i (.d (.extract 1))),[(.tmp 5)],none,none⟩,⟨(some 3),(.i (.m (.alloc [(.int .i64 0)]))),[],none,none⟩,⟨none,(.i (.m (.store 1))),[(.tmp 3),(.tmp 8)],none,none⟩,⟨(some 4),(.i (.d .move)),[(.tmp 9)],none,none⟩]
def ic237_R:IC:=.seq (.region [⟨(some 10),(.i (.d .move)),[(.tmp 4)],none,none⟩] (some [0,1,2,3,10])) (.cond (.tmp 10) (.draw 0 [⟨(some 11),(.i (.d (.build [(.int .i64 0),(.str []),.nilslice] []))),[],none,none⟩,⟨(some 12),(.i (.d (.fieldAddr 0))),[(.tmp 3)],none,none⟩,⟨(some 13),(.i (.m (.load none))),[(.tmp 12)],none,none⟩,⟨none,(.i (.m (.store 3))),[(.tmp 0),(.tmp 11)],none,none⟩,⟨none,(.i (.m (.store 1))),[(.tmp 1),(.tmp 13)],none,none⟩,⟨none,(.i (.m (.store 1))),[(.tmp 2),(.const (.int .i64 2))],none,none⟩] [[],[],[1],[0],[0,1,2,3],[0,1,2,3,4]] (.quiet 0 (.quiet 1 (.quiet 2 (.branch 3 (.branch 4 (.branch 5 .done .stop) .stop) .stop)))) (some [])) .skip)
theorem cc237_R:cCode QQ 14 c237_R [.plain (some [0,1,2,3,10]),.draw 0 [] [[],[],[1],[0],[0,1,2,3],[0,1,2,3,4]] (.quiet 0 (.quiet 1 (.quiet 2 (.branch 3 (.branch 4 (.branch 5 .done .stop) .stop) .stop)))) (some [])]=some (ic237_R,[]):=by kernel_rfl
theorem cl237:cList QQ ops237 os237=some ios237:=by kernel_rfl
theorem ops237_eq:ops237.toList=o237_0::os237:=by kernel_rfl
theorem d237_none {a b c:AV} {H:Heap}:DCalls QQ 173 [a,b,c] H none (fun _ H'=>∃ G,H'=H++G):=by
 refine dcall_recover (t:=6) (ios:=ios237) z0W Go.Proofs.Tryz.func173 body237 ops237_eq ⟨#[],by kernel_rfl⟩ (by kernel_rfl) (by kernel_rfl) cl237 (by kernel_rfl) (show 3≤14 by decide) (by decide) ?_
 refine vopsL_sound (n:=14) (K:=fun al H'=>∃ G,H'=H++G∧look al 4=.bool false) (Qp:=fun _ _ _=>False) ?_ (fun _ _ _ h=>h) ios237 ((6,.niliface)::number 0 [a,b,c]) H (by kernel_rfl) ?_
 ·rintro al H' ⟨G,rfl,h4⟩
  refine (iwp_sound z0W mixed c237_R _ _ _ cc237_R (fun x al H'=>(x=.normal∨x=.ret)∧∃ G,H'=H++G) al _ (WI.h ?_)).mono ?_
  ·refine z2V (z1N ?_)
   refine z3A (.bool false) h4 ?_
   refine z3T rfl (nx_n ?_)
   exact iw_no rfl (z3V ⟨.inl rfl,G,rfl⟩)
  ·rintro x env H' ⟨m,al',rfl,hm,q⟩
   exact q
 ·have:VV QQ ios237 [(6,.niliface),(0,a),(1,b),(2,c)] (H++[]) (fun al H'=>∃ G,H'=H++G∧look al 4=.bool false) (fun _ _ _=>False):=by
   refine z2Z (v:=.tuple [.agg [.int .i64 0],.bool false]) rfl ?_
   refine z3A (.tuple [.agg [.int .i64 0],.bool false]) rfl ?_
   refine z2Z (v:=.agg [.int .i64 0]) rfl ?_
   refine z2Z (v:=.bool false) rfl ?_
   refine z1Z (n:=0) rfl rfl ?_
   refine z1X (n:=0) (.agg [.int .i64 0]) rfl rfl rfl rfl rfl rfl ?_
   refine z3A (.bool false) rfl ?_
   exact ⟨⟨_,rfl,rfl⟩⟩
  rw [List.append_nil] at this
  exact this.1
theorem rload_app {k:Option Nat} {x v:AV} {H G:Heap} (h:rload k x H=some v):rload k x (H++G)=some v:=by
 unfold rload at h ⊢
 split at h
 ·rename_i id off
  split at h
  ·rename_i cs hg
   simp only [z0H hg];exact h
  ·cases h
 ·exact h
 ·cases h
theorem resVL_app {al:AL} {H G:Heap}:∀ {rs:List RV} {vs:List AV},resVL rs al H=some vs→resVL rs al (H++G)=some vs
 | [],vs,h=>h
 | .tmp t::l,vs,h=>by
  simp only [resVL] at h ⊢
  split at h
  ·rename_i r hr;rw [resVL_app hr];exact h
  ·cases h
 | .cell t n::l,vs,h=>by
  simp only [resVL] at h ⊢
  split at h
  ·rename_i v r hv hr;rw [resVL_app hr,rload_app hv];exact h
  ·cases h
theorem resultA_app {n:Nat} {al:AL} {H G:Heap} {rs:List RV} {v:AV} (h:resultL rs al H=some v):resultA rs (mkE n al) (H++G)=some v:=by
 unfold resultL at h
 unfold resultA
 rw [resVL_eq]
 cases hv:resVL rs al H with
 | none=>rw [hv] at h;cases h
 | some vs=>rw [hv] at h;rw [resVL_app hv];exact h
noncomputable def run211 (call:BCall) (s:List UInt8) (v:AV):Bool :=
 Nat.ble s.length 6000&&bcode call 300 ic211_R (fun x al H=>match x with | .ret=>(match resultL rs211 al H with | some u=>sameV u v | none=>false) | _=>false)
  [(11,.clo (.func 173) [] [.ptr 0 0,.ptr 1 0,.ptr 2 0]),(0,.str s),(2,.ptr 0 0),(3,.ptr 1 0),(4,.ptr 2 0),(9,.bool false)] [.cells [.int .i64 0,.str [],.nilslice],.cells [.int .i64 0],.cells [.int .i64 0]]
theorem run211_ok {call:BCall} (hcall:CallOk QQ call) {s:List UInt8} {v:AV} (hv:Plain v) (h:run211 call s v=true):ACall QQ 150 [.str s] [] (Just [] v):=by
 unfold run211 at h
 rw [Bool.and_eq_true] at h
 have hs:=Nat.le_of_ble_eq_true h.1
 refine ACall.gives (acall_defer (t:=11) (cs:=[.tmp 2,.tmp 3,.tmp 4]) (caps:=[.tmp 2,.tmp 3,.tmp 4]) (p:=#[]) (rs:=rs211) z0W Go.Proofs.Tryz.func150 body211 (by kernel_rfl) (by kernel_rfl) (by kernel_rfl) (by kernel_rfl) (by kernel_rfl) (by kernel_rfl)
  rfl (by unfold hasBody;rw [Go.Proofs.Tryz.func173];rfl) crv211 (show 1≤33 by decide) ?_)
 refine (iwp_sound z0W mixed c211_0 _ _ _ cc211_0 (fun x al H=>x=.normal∧al=[(0,.str s),(2,.ptr 0 0),(3,.ptr 1 0),(4,.ptr 2 0)]∧H=[.cells [.int .i64 0,.str [],.nilslice],.cells [.int .i64 0],.cells [.int .i64 0]]) (number 0 [.str s]) [] (WI.h ?_)).mono ?_
 ·refine z1N ?_
  refine st_i (H:=[]) rfl ?_
  refine st_i rfl ?_
  refine st_i rfl ?_
  exact ⟨⟨rfl,rfl,rfl⟩⟩
 rintro x env H' ⟨m,al,rfl,hm,rfl,rfl,rfl⟩
 cases hm rfl
 refine (iwp_sound z0W mixed c211_A _ _ _ cc211_A (fun x al H=>x=.normal∧al=[(0,.str s),(2,.ptr 0 0),(3,.ptr 1 0),(4,.ptr 2 0),(9,.bool false)]∧H=[.cells [.int .i64 0,.str [],.nilslice],.cells [.int .i64 0],.cells [.int .i64 0]]) _ _ (WI.h ?_)).mono ?_
 ·refine z2V (z1N ?_)
  refine z3A (.str s) rfl ?_
  refine z2Z (v:=.int .i64 s.length) rfl ?_
  refine z2Z (v:=.bool (decide ((s.length:Int)>6000))) rfl ?_
  refine z3T (al':=[(0,.str s),(2,.ptr 0 0),(3,.ptr 1 0),(4,.ptr 2 0),(9,.bool false)]) ?_ (nx_n ?_)
  ·have:decide ((s.length:Int)>6000)=false:=by simp;omega
   rw [this];rfl
  ·exact iw_no rfl (z3V ⟨rfl,rfl,rfl⟩)
 rintro x env H' ⟨m,al,rfl,hm,rfl,rfl,rfl⟩
 cases hm rfl
 refine ⟨show 11<33 by decide,?_⟩
 refine (iwp_sound z0W mixed c211_R _ _ _ cc211_R (fun x al H=>x=.ret∧resultL rs211 al H=some v)
  [(11,.clo (.func 173) [] [.ptr 0 0,.ptr 1 0,.ptr 2 0]),(0,.str s),(2,.ptr 0 0),(3,.ptr 1 0),(4,.ptr 2 0),(9,.bool false)] _ ?_).mono ?_
 ·refine bcode_sound hcall 300 ic211_R _ _ ?_ _ _ h.2
  intro x al H q al' hal
  cases x with
  | ret =>
   cases hal rfl
   simp only at q
   split at q
   ·rename_i u hu;rw [←sameV_eq q];exact ⟨rfl,hu⟩
   ·cases q
  | _=>cases q
 rintro x env H' ⟨m,al,rfl,hm,rfl,hr⟩
 have:=d237_none (a:=.ptr 0 0) (b:=.ptr 1 0) (c:=.ptr 2 0) (H:=H')
 intro φ σ cargs w hrel hc u hu
 refine (this φ σ cargs w hrel hc u hu).mono ?_
 rintro e u' w' ⟨φ',σ',H'',r,he,s',kp,hu',G,rfl⟩
 exact ⟨φ',σ',_,r,he,s',kp,hu',v,resultA_app hr,z2T (H:=[]) hv⟩
end Go.Ab
