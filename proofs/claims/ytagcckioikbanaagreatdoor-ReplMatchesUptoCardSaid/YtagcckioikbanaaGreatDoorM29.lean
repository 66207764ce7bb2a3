/- Part 29 of the proof. -/
import Derived.KernelRfl
import Derived.Test.YtagcckioikbanaaGreatDoorM19
import Derived.Test.YtagcckioikbanaaGreatDoorM28
set_option linter.unusedVariables false
set_option linter.unusedSimpArgs false
namespace Go.Ab
open Go
theorem mixed:Go.Proofs.Tryz.prog.follows .mixedOrders=true:=by kernel_rfl
def zQV (P:Program):Bool:=P.funcs.toList.all fun fn=>!(fn.name == "runtime.NumGoroutine")
theorem zPR {P:Program} (h:zQV P=true):z6F P:=by
 intro f fn hf
 unfold zQV at h
 rw [lAX] at h
 have:=h fn (by rw [Array.mem_toList_iff];exact Array.mem_of_getElem? hf)
 simpa using this
theorem z0R:z6F Go.Proofs.Tryz.prog:=zPR (by kernel_rfl)
end Go.Ab
namespace Go.Ab
open Go
set_option maxRecDepth 100000
noncomputable abbrev QQ:Program:=Go.Proofs.Tryz.prog
noncomputable def zNB:Code:=match Proofs.Tryz.f217.body with | some (.seq c _)=>c | _=>.skip
noncomputable def zNA:Code:=match Proofs.Tryz.f217.body with | some (.seq _ (.seq c _))=>c | _=>.skip
noncomputable def zTG:Oper:=match Proofs.Tryz.f217.body with | some (.seq _ (.seq _ (.seq (.region _ ops _) _)))=>ops.getD 0 default | _=>default
noncomputable def zTF:Oper:=match Proofs.Tryz.f217.body with | some (.seq _ (.seq _ (.seq (.region _ ops _) _)))=>ops.getD 1 default | _=>default
noncomputable def zMz:Code:=match Proofs.Tryz.f217.body with | some (.seq _ (.seq _ (.seq _ c)))=>c | _=>.skip
theorem zSV:Proofs.Tryz.f217.body=some (.seq zNB (.seq zNA (.seq (.region 3 #[zTG,zTF] false) zMz))):=by kernel_rfl
def zRv:IC:=.region [⟨(some 2),(.i (.m (.alloc [(.int .i64 0),(.str []),.nilslice]))),[],none,none⟩,⟨(some 3),(.i (.m (.alloc [(.int .i64 0)]))),[],none,none⟩,⟨(some 4),(.i (.m (.alloc [(.int .i64 0)]))),[],none,none⟩] (some [0,2,3,4])
def zRu:IC:=.seq (.region [⟨(some 7),(.i (.d .move)),[(.tmp 0)],none,none⟩,⟨(some 8),(.i (.d .lenStr)),[(.tmp 7)],none,none⟩,⟨(some 9),(.i (.d (.bin .gtr))),[(.tmp 8),(.const (.int .i64 6000))],none,none⟩] (some [0,2,3,4,9])) (.cond (.tmp 9) (.seq (.region [⟨(some 10),(.i (.d (.build [(.int .i64 0),(.str []),.nilslice] []))),[],none,none⟩,⟨none,(.i (.m (.store 3))),[(.tmp 2),(.tmp 10)],none,none⟩,⟨none,(.i (.m (.store 1))),[(.tmp 3),(.const (.int .i64 0))],none,none⟩,⟨none,(.i (.m (.store 1))),[(.tmp 4),(.const (.int .i64 3))],none,none⟩] (some [2,3,4])) .ret) .skip)
def zGZ:IC:=.seq (.region [⟨(some 12),(.i (.d .move)),[(.tmp 0)],none,none⟩,⟨(some 13),(.i (.d (.build [(.str []),(.int .i64 0)] [(0,1)]))),[(.tmp 12)],none,none⟩,⟨(some 14),(.i (.m .box)),[(.tmp 13)],none,none⟩,⟨(some 5),(.i (.d .move)),[(.tmp 14)],none,none⟩] (some [2,3,4,5])) (.seq (.region [⟨(some 15),(.i (.d .move)),[(.tmp 5)],none,none⟩,⟨(some 16),(.callF 231),[(.tmp 15)],none,none⟩,⟨none,(.i (.m (.store 3))),[(.tmp 2),(.tmp 16)],none,none⟩] (some [2,3,4,5])) (.seq (.seq (.region [⟨(some 17),(.i (.d .move)),[(.tmp 5)],none,none⟩,⟨(some 18),(.callF 232),[(.tmp 17)],none,none⟩,⟨(some 19),(.i (.d (.bin .neq))),[(.tmp 18),(.const (.str []))],none,none⟩] (some [2,3,4,5,19])) (.cond (.tmp 19) (.region [⟨(some 20),(.i (.d .move)),[(.tmp 5)],none,none⟩,⟨(some 21),(.i (.d .nilCheck)),[(.tmp 20)],none,none⟩,⟨(some 22),(.i (.d (.fieldAddr 1))),[(.tmp 21)],none,none⟩,⟨(some 23),(.i (.m (.load none))),[(.tmp 22)],none,none⟩,⟨(some 24),(.i (.d (.build [(.int .i64 0)] [(0,1)]))),[(.tmp 23)],none,none⟩,⟨(some 25),(.i (.d (.mkIface 301))),[(.tmp 24)],none,none⟩,⟨none,.panic,[(.tmp 25)],none,none⟩] (some [2,3,4])) .skip)) (.seq (.seq (.region [⟨(some 26),(.i (.m (.load (some 3)))),[(.tmp 2)],none,none⟩,⟨(some 27),(.callF 74),[(.tmp 26)],none,none⟩,⟨(some 6),(.i (.d .move)),[(.tmp 27)],none,none⟩] (some [2,3,4,6])) (.seq (.region [⟨(some 28),(.i (.d .move)),[(.tmp 6)],none,none⟩,⟨(some 29),(.i (.d (.bin .neq))),[(.tmp 28),(.const (.int .i64 0))],none,none⟩] (some [2,3,4,6,29])) (.cond (.tmp 29) (.seq (.region [⟨(some 30),(.i (.d (.build [(.int .i64 0),(.str []),.nilslice] []))),[],none,none⟩,⟨(some 31),(.i (.d .move)),[(.tmp 6)],none,none⟩,⟨none,(.i (.m (.store 3))),[(.tmp 2),(.tmp 30)],none,none⟩,⟨none,(.i (.m (.store 1))),[(.tmp 3),(.const (.int .i64 0))],none,none⟩,⟨none,(.i (.m (.store 1))),[(.tmp 4),(.tmp 31)],none,none⟩] (some [2,3,4])) .ret) .skip))) (.seq (.region [⟨(some 32),(.i (.m (.load (some 3)))),[(.tmp 2)],none,none⟩,⟨none,(.i (.m (.store 3))),[(.tmp 2),(.tmp 32)],none,none⟩,⟨none,(.i (.m (.store 1))),[(.tmp 3),(.const (.int .i64 0))],none,none⟩,⟨none,(.i (.m (.store 1))),[(.tmp 4),(.const (.int .i64 0))],none,none⟩] (some [2,3,4])) .ret))))
theorem zSR:z2T QQ 33 zNB [.plain (some [0,2,3,4])]=some (zRv,[]):=by kernel_rfl
theorem zSQ:z2T QQ 33 zNA [.plain (some [0,2,3,4,9]),.plain (some [2,3,4])]=some (zRu,[]):=by kernel_rfl
theorem zSP:z2T QQ 33 zMz [.plain (some [2,3,4,5]),.plain (some [2,3,4,5]),.plain (some [2,3,4,5,19]),.plain (some [2,3,4]),.plain (some [2,3,4,6]),.plain (some [2,3,4,6,29]),.plain (some [2,3,4]),.plain (some [2,3,4])]=some (zGZ,[]):=by kernel_rfl
def zPF:List RV:=[(.cell 2 (some 3)),(.cell 3 none),(.cell 4 none)]
theorem zXK:cRV QQ Proofs.Tryz.f217.results.toList=some zPF:=by kernel_rfl
noncomputable def zTE:Oper:=match Proofs.Tryz.f230.body with | some (.seq (.region _ ops _) _)=>ops.getD 0 default | _=>default
noncomputable def zTC:List Oper:=match Proofs.Tryz.f230.body with | some (.seq (.region _ ops _) _)=>ops.toList.drop 1 | _=>default
noncomputable def zLq:Array Oper:=match Proofs.Tryz.f230.body with | some (.seq (.region _ ops _) _)=>ops | _=>default
noncomputable def zMy:Code:=match Proofs.Tryz.f230.body with | some (.seq _ c)=>c | _=>.skip
theorem zSU:Proofs.Tryz.f230.body=some (.seq (.region 0 zLq false) zMy):=by kernel_rfl
def zHu:List IOper:=[⟨(some 7),(.i (.d (.assertTo 301 true (.agg [(.int .i64 0)])))),[(.tmp 6)],none,none⟩,⟨(some 5),(.i (.d .move)),[(.tmp 7)],none,none⟩,⟨(some 8),(.i (.d (.extract 0))),[(.tmp 5)],none,none⟩,⟨(some 9),(.i (.d (.extract 1))),[(.tmp 5)],none,none⟩,⟨(some 3),(.i (.m (.alloc [(.int .i64 0)]))),[],none,none⟩,⟨none,(.i (.m (.store 1))),[(.tmp 3),(.tmp 8)],none,none⟩,⟨(some 4),(.i (.d .move)),[(.tmp 9)],none,none⟩]
def zRt:IC:=.seq (.region [⟨(some 10),(.i (.d .move)),[(.tmp 4)],none,none⟩] (some [0,1,2,3,10])) (.cond (.tmp 10) (.draw 0 [⟨(some 11),(.i (.d (.build [(.int .i64 0),(.str []),.nilslice] []))),[],none,none⟩,⟨(some 12),(.i (.d (.fieldAddr 0))),[(.tmp 3)],none,none⟩,⟨(some 13),(.i (.m (.load none))),[(.tmp 12)],none,none⟩,⟨none,(.i (.m (.store 3))),[(.tmp 0),(.tmp 11)],none,none⟩,⟨none,(.i (.m (.store 1))),[(.tmp 1),(.tmp 13)],none,none⟩,⟨none,(.i (.m (.store 1))),[(.tmp 2),(.const (.int .i64 2))],none,none⟩] [[],[],[1],[0],[0,1,2,3],[0,1,2,3,4]] (.quiet 0 (.quiet 1 (.quiet 2 (.branch 3 (.branch 4 (.branch 5 .done .stop) .stop) .stop)))) (some [])) .skip)
theorem zSN:z2T QQ 14 zMy [.plain (some [0,1,2,3,10]),.draw 0 [] [[],[],[1],[0],[0,1,2,3],[0,1,2,3,4]] (.quiet 0 (.quiet 1 (.quiet 2 (.branch 3 (.branch 4 (.branch 5 .done .stop) .stop) .stop)))) (some [])]=some (zRt,[]):=by kernel_rfl
theorem zZY:z8q QQ zLq zTC=some zHu:=by kernel_rfl
theorem zLp:zLq.toList=zTE::zTC:=by kernel_rfl
theorem zMr {a b c:AV} {H:z0B}:zCW QQ 230 [a,b,c] H none (fun _ H'=>∃ G,H'=H++G):=by
 refine zDU (t:=6) (ios:=zHu) z0R Go.Proofs.Tryz.func230 zSU zLp ⟨#[],by kernel_rfl⟩ (by kernel_rfl) (by kernel_rfl) zZY (by kernel_rfl) (show 3≤14 by decide) (by decide) ?_
 refine z6u (n:=14) (K:=fun al H'=>∃ G,H'=H++G∧z2V al 4=.bool false) (Qp:=fun _ _ _=>False) ?_ (fun _ _ _ h=>h) zHu ((6,.niliface)::z6k 0 [a,b,c]) H (by kernel_rfl) ?_
 ·rintro al H' ⟨G,rfl,h4⟩
  refine (z2G z0R mixed zMy _ _ _ zSN (fun x al H'=>(x=.normal∨x=.ret)∧∃ G,H'=H++G) al _ (WI.h ?_)).mono ?_
  ·refine z1e (z0c ?_)
   refine z7c (.bool false) h4 ?_
   refine zAC rfl (zHb ?_)
   exact zGX rfl (z7J ⟨.inl rfl,G,rfl⟩)
  ·rintro x env H' ⟨m,al',rfl,hm,q⟩
   exact q
 ·have:VV QQ zHu [(6,.niliface),(0,a),(1,b),(2,c)] (H++[]) (fun al H'=>∃ G,H'=H++G∧z2V al 4=.bool false) (fun _ _ _=>False):=by
   refine z2S (v:=.tuple [.agg [.int .i64 0],.bool false]) rfl ?_
   refine z7c (.tuple [.agg [.int .i64 0],.bool false]) rfl ?_
   refine z2S (v:=.agg [.int .i64 0]) rfl ?_
   refine z2S (v:=.bool false) rfl ?_
   refine z5F (n:=0) rfl rfl ?_
   refine z3H (n:=0) (.agg [.int .i64 0]) rfl rfl rfl rfl rfl rfl ?_
   refine z7c (.bool false) rfl ?_
   exact ⟨⟨_,rfl,rfl⟩⟩
  rw [lAK] at this
  exact this.1
theorem zLb {k:Option Nat} {x v:AV} {H G:z0B} (h:z0h k x H=some v):z0h k x (H++G)=some v:=by
 unfold z0h at h ⊢
 split at h
 ·rename_i id off
  split at h
  ·rename_i cs hg
   simp only [z0G hg];exact h
  ·cases h
 ·exact h
 ·cases h
theorem zAP {al:AL} {H G:z0B}:∀ {rs:List RV} {vs:List AV},zAQ rs al H=some vs→zAQ rs al (H++G)=some vs
 | [],vs,h=>h
 | .tmp t::l,vs,h=>by
  simp only [zAQ] at h ⊢
  split at h
  ·rename_i r hr;rw [zAP hr];exact h
  ·cases h
 | .cell t n::l,vs,h=>by
  simp only [zAQ] at h ⊢
  split at h
  ·rename_i v r hv hr;rw [zAP hr,zLb hv];exact h
  ·cases h
theorem zGF {n:Nat} {al:AL} {H G:z0B} {rs:List RV} {v:AV} (h:z3c rs al H=some v):z3T rs (mkE n al) (H++G)=some v:=by
 unfold z3c at h
 unfold z3T
 rw [z7k]
 cases hv:zAQ rs al H with
 | none=>rw [hv] at h;cases h
 | some vs=>rw [hv] at h;rw [zAP hv];exact h
noncomputable def zLX (call:z3M) (s:List UInt8) (v:AV):Bool :=
 Nat.ble s.length 6000&&zBR call 300 zGZ (fun x al H=>match x with | .ret=>(match z3c zPF al H with | some u=>zAL u v | none=>false) | _=>false)
  [(11,.clo (.func 230) [] [.ptr 0 0,.ptr 1 0,.ptr 2 0]),(0,.str s),(2,.ptr 0 0),(3,.ptr 1 0),(4,.ptr 2 0),(9,.bool false)] [.cells [.int .i64 0,.str [],.nilslice],.cells [.int .i64 0],.cells [.int .i64 0]]
theorem zLW {call:z3M} (hcall:z4G QQ call) {s:List UInt8} {v:AV} (hv:z0N v) (h:zLX call s v=true):z0D QQ 217 [.str s] [] (z1A [] v):=by
 unfold zLX at h
 rw [lAQ] at h
 have hs:=lDU h.1
 refine z0D.gives (zGt (t:=11) (cs:=[.tmp 2,.tmp 3,.tmp 4]) (caps:=[.tmp 2,.tmp 3,.tmp 4]) (p:=#[]) (rs:=zPF) z0R Go.Proofs.Tryz.func217 zSV (by kernel_rfl) (by kernel_rfl) (by kernel_rfl) (by kernel_rfl) (by kernel_rfl) (by kernel_rfl)
  rfl (by unfold hasBody;rw [Go.Proofs.Tryz.func230];rfl) zXK (show 1≤33 by decide) ?_)
 refine (z2G z0R mixed zNB _ _ _ zSR (fun x al H=>x=.normal∧al=[(0,.str s),(2,.ptr 0 0),(3,.ptr 1 0),(4,.ptr 2 0)]∧H=[.cells [.int .i64 0,.str [],.nilslice],.cells [.int .i64 0],.cells [.int .i64 0]]) (z6k 0 [.str s]) [] (WI.h ?_)).mono ?_
 ·refine z0c ?_
  refine z8X (H:=[]) rfl ?_
  refine z8X rfl ?_
  refine z8X rfl ?_
  exact ⟨⟨rfl,rfl,rfl⟩⟩
 rintro x env H' ⟨m,al,rfl,hm,rfl,rfl,rfl⟩
 cases hm rfl
 refine (z2G z0R mixed zNA _ _ _ zSQ (fun x al H=>x=.normal∧al=[(0,.str s),(2,.ptr 0 0),(3,.ptr 1 0),(4,.ptr 2 0),(9,.bool false)]∧H=[.cells [.int .i64 0,.str [],.nilslice],.cells [.int .i64 0],.cells [.int .i64 0]]) _ _ (WI.h ?_)).mono ?_
 ·refine z1e (z0c ?_)
  refine z7c (.str s) rfl ?_
  refine z2S (v:=.int .i64 s.length) rfl ?_
  refine z2S (v:=.bool (decide ((s.length:Int)>6000))) rfl ?_
  refine zAC (al':=[(0,.str s),(2,.ptr 0 0),(3,.ptr 1 0),(4,.ptr 2 0),(9,.bool false)]) ?_ (zHb ?_)
  ·have:decide ((s.length:Int)>6000)=false:=by simp;omega
   rw [this];rfl
  ·exact zGX rfl (z7J ⟨rfl,rfl,rfl⟩)
 rintro x env H' ⟨m,al,rfl,hm,rfl,rfl,rfl⟩
 cases hm rfl
 refine ⟨show 11<33 by decide,?_⟩
 refine (z2G z0R mixed zMz _ _ _ zSP (fun x al H=>x=.ret∧z3c zPF al H=some v)
  [(11,.clo (.func 230) [] [.ptr 0 0,.ptr 1 0,.ptr 2 0]),(0,.str s),(2,.ptr 0 0),(3,.ptr 1 0),(4,.ptr 2 0),(9,.bool false)] _ ?_).mono ?_
 ·refine z2H hcall 300 zGZ _ _ ?_ _ _ h.2
  intro x al H q al' hal
  cases x with
  | ret =>
   cases hal rfl
   simp only at q
   split at q
   ·rename_i u hu;rw [←z4B q];exact ⟨rfl,hu⟩
   ·cases q
  | _=>cases q
 rintro x env H' ⟨m,al,rfl,hm,rfl,hr⟩
 have:=zMr (a:=.ptr 0 0) (b:=.ptr 1 0) (c:=.ptr 2 0) (H:=H')
 intro φ σ cargs w hrel hc u hu
 refine (this φ σ cargs w hrel hc u hu).mono ?_
 rintro e u' w' ⟨φ',σ',H'',r,he,s',kp,hu',G,rfl⟩
 exact ⟨φ',σ',_,r,he,s',kp,hu',v,zGF hr,z2P (H:=[]) hv⟩
end Go.Ab
