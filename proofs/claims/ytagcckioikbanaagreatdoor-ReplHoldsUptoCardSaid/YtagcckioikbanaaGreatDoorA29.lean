/- Part 29 of the proof. -/
import Derived.KernelRfl
import Derived.Test.YtagcckioikbanaaGreatDoorA19
import Derived.Test.YtagcckioikbanaaGreatDoorA28
set_option linter.unusedVariables false
set_option linter.unusedSimpArgs false
namespace Go.Ab
open Go
theorem mixed:Go.Proofs.Tryz.prog.follows .mixedOrders=true:=by kernel_rfl
def zRU (P:Program):Bool:=P.funcs.toList.all fun fn=>!(fn.name == "runtime.NumGoroutine")
theorem zQT {P:Program} (h:zRU P=true):z6j P:=by
 intro f fn hf
 unfold zRU at h
 rw [lAZ] at h
 have:=h fn (by rw [Array.mem_toList_iff];exact Array.mem_of_getElem? hf)
 simpa using this
theorem z0P:z6j Go.Proofs.Tryz.prog:=zQT (by kernel_rfl)
end Go.Ab
namespace Go.Ab
open Go
set_option maxRecDepth 100000
noncomputable abbrev QQ:Program:=Go.Proofs.Tryz.prog
noncomputable def zPE:Code:=match Proofs.Tryz.f217.body with | some (.seq c _)=>c | _=>.skip
noncomputable def zPD:Code:=match Proofs.Tryz.f217.body with | some (.seq _ (.seq c _))=>c | _=>.skip
noncomputable def zUK:Oper:=match Proofs.Tryz.f217.body with | some (.seq _ (.seq _ (.seq (.region _ ops _) _)))=>ops.getD 0 default | _=>default
noncomputable def zUJ:Oper:=match Proofs.Tryz.f217.body with | some (.seq _ (.seq _ (.seq (.region _ ops _) _)))=>ops.getD 1 default | _=>default
noncomputable def zPC:Code:=match Proofs.Tryz.f217.body with | some (.seq _ (.seq _ (.seq _ c)))=>c | _=>.skip
theorem zTc:Proofs.Tryz.f217.body=some (.seq zPE (.seq zPD (.seq (.region 3 #[zUK,zUJ] false) zPC))):=by kernel_rfl
def zTA:IC:=.region [⟨(some 2),(.i (.m (.alloc [(.int .i64 0),(.str []),.nilslice]))),[],none,none⟩,⟨(some 3),(.i (.m (.alloc [(.int .i64 0)]))),[],none,none⟩,⟨(some 4),(.i (.m (.alloc [(.int .i64 0)]))),[],none,none⟩] (some [0,2,3,4])
def zSz:IC:=.seq (.region [⟨(some 7),(.i (.d .move)),[(.tmp 0)],none,none⟩,⟨(some 8),(.i (.d .lenStr)),[(.tmp 7)],none,none⟩,⟨(some 9),(.i (.d (.bin .gtr))),[(.tmp 8),(.const (.int .i64 6000))],none,none⟩] (some [0,2,3,4,9])) (.cond (.tmp 9) (.seq (.region [⟨(some 10),(.i (.d (.build [(.int .i64 0),(.str []),.nilslice] []))),[],none,none⟩,⟨none,(.i (.m (.store 3))),[(.tmp 2),(.tmp 10)],none,none⟩,⟨none,(.i (.m (.store 1))),[(.tmp 3),(.const (.int .i64 0))],none,none⟩,⟨none,(.i (.m (.store 1))),[(.tmp 4),(.const (.int .i64 3))],none,none⟩] (some [2,3,4])) .ret) .skip)
def zHc:IC:=.seq (.region [⟨(some 12),(.i (.d .move)),[(.tmp 0)],none,none⟩,⟨(some 13),(.i (.d (.build [(.str []),(.int .i64 0)] [(0,1)]))),[(.tmp 12)],none,none⟩,⟨(some 14),(.i (.m .box)),[(.tmp 13)],none,none⟩,⟨(some 5),(.i (.d .move)),[(.tmp 14)],none,none⟩] (some [2,3,4,5])) (.seq (.region [⟨(some 15),(.i (.d .move)),[(.tmp 5)],none,none⟩,⟨(some 16),(.callF 231),[(.tmp 15)],none,none⟩,⟨none,(.i (.m (.store 3))),[(.tmp 2),(.tmp 16)],none,none⟩] (some [2,3,4,5])) (.seq (.seq (.region [⟨(some 17),(.i (.d .move)),[(.tmp 5)],none,none⟩,⟨(some 18),(.callF 232),[(.tmp 17)],none,none⟩,⟨(some 19),(.i (.d (.bin .neq))),[(.tmp 18),(.const (.str []))],none,none⟩] (some [2,3,4,5,19])) (.cond (.tmp 19) (.region [⟨(some 20),(.i (.d .move)),[(.tmp 5)],none,none⟩,⟨(some 21),(.i (.d .nilCheck)),[(.tmp 20)],none,none⟩,⟨(some 22),(.i (.d (.fieldAddr 1))),[(.tmp 21)],none,none⟩,⟨(some 23),(.i (.m (.load none))),[(.tmp 22)],none,none⟩,⟨(some 24),(.i (.d (.build [(.int .i64 0)] [(0,1)]))),[(.tmp 23)],none,none⟩,⟨(some 25),(.i (.d (.mkIface 301))),[(.tmp 24)],none,none⟩,⟨none,.panic,[(.tmp 25)],none,none⟩] (some [2,3,4])) .skip)) (.seq (.seq (.region [⟨(some 26),(.i (.m (.load (some 3)))),[(.tmp 2)],none,none⟩,⟨(some 27),(.callF 74),[(.tmp 26)],none,none⟩,⟨(some 6),(.i (.d .move)),[(.tmp 27)],none,none⟩] (some [2,3,4,6])) (.seq (.region [⟨(some 28),(.i (.d .move)),[(.tmp 6)],none,none⟩,⟨(some 29),(.i (.d (.bin .neq))),[(.tmp 28),(.const (.int .i64 0))],none,none⟩] (some [2,3,4,6,29])) (.cond (.tmp 29) (.seq (.region [⟨(some 30),(.i (.d (.build [(.int .i64 0),(.str []),.nilslice] []))),[],none,none⟩,⟨(some 31),(.i (.d .move)),[(.tmp 6)],none,none⟩,⟨none,(.i (.m (.store 3))),[(.tmp 2),(.tmp 30)],none,none⟩,⟨none,(.i (.m (.store 1))),[(.tmp 3),(.const (.int .i64 0))],none,none⟩,⟨none,(.i (.m (.store 1))),[(.tmp 4),(.tmp 31)],none,none⟩] (some [2,3,4])) .ret) .skip))) (.seq (.region [⟨(some 32),(.i (.m (.load (some 3)))),[(.tmp 2)],none,none⟩,⟨none,(.i (.m (.store 3))),[(.tmp 2),(.tmp 32)],none,none⟩,⟨none,(.i (.m (.store 1))),[(.tmp 3),(.const (.int .i64 0))],none,none⟩,⟨none,(.i (.m (.store 1))),[(.tmp 4),(.const (.int .i64 0))],none,none⟩] (some [2,3,4])) .ret))))
theorem zTY:z2f QQ 33 zPE [.plain (some [0,2,3,4])]=some (zTA,[]):=by kernel_rfl
theorem zTX:z2f QQ 33 zPD [.plain (some [0,2,3,4,9]),.plain (some [2,3,4])]=some (zSz,[]):=by kernel_rfl
theorem zTW:z2f QQ 33 zPC [.plain (some [2,3,4,5]),.plain (some [2,3,4,5]),.plain (some [2,3,4,5,19]),.plain (some [2,3,4]),.plain (some [2,3,4,6]),.plain (some [2,3,4,6,29]),.plain (some [2,3,4]),.plain (some [2,3,4])]=some (zHc,[]):=by kernel_rfl
def zQF:List RV:=[(.cell 2 (some 3)),(.cell 3 none),(.cell 4 none)]
theorem zYV:cRV QQ Proofs.Tryz.f217.results.toList=some zQF:=by kernel_rfl
noncomputable def zUH:Oper:=match Proofs.Tryz.f230.body with | some (.seq (.region _ ops _) _)=>ops.getD 0 default | _=>default
noncomputable def zUF:List Oper:=match Proofs.Tryz.f230.body with | some (.seq (.region _ ops _) _)=>ops.toList.drop 1 | _=>default
noncomputable def zMt:Array Oper:=match Proofs.Tryz.f230.body with | some (.seq (.region _ ops _) _)=>ops | _=>default
noncomputable def zPB:Code:=match Proofs.Tryz.f230.body with | some (.seq _ c)=>c | _=>.skip
theorem zTb:Proofs.Tryz.f230.body=some (.seq (.region 0 zMt false) zPB):=by kernel_rfl
def zJr:List IOper:=[⟨(some 7),(.i (.d (.assertTo 301 true (.agg [(.int .i64 0)])))),[(.tmp 6)],none,none⟩,⟨(some 5),(.i (.d .move)),[(.tmp 7)],none,none⟩,⟨(some 8),(.i (.d (.extract 0))),[(.tmp 5)],none,none⟩,⟨(some 9),(.i (.d (.extract 1))),[(.tmp 5)],none,none⟩,⟨(some 3),(.i (.m (.alloc [(.int .i64 0)]))),[],none,none⟩,⟨none,(.i (.m (.store 1))),[(.tmp 3),(.tmp 8)],none,none⟩,⟨(some 4),(.i (.d .move)),[(.tmp 9)],none,none⟩]
def zSy:IC:=.seq (.region [⟨(some 10),(.i (.d .move)),[(.tmp 4)],none,none⟩] (some [0,1,2,3,10])) (.cond (.tmp 10) (.draw 0 [⟨(some 11),(.i (.d (.build [(.int .i64 0),(.str []),.nilslice] []))),[],none,none⟩,⟨(some 12),(.i (.d (.fieldAddr 0))),[(.tmp 3)],none,none⟩,⟨(some 13),(.i (.m (.load none))),[(.tmp 12)],none,none⟩,⟨none,(.i (.m (.store 3))),[(.tmp 0),(.tmp 11)],none,none⟩,⟨none,(.i (.m (.store 1))),[(.tmp 1),(.tmp 13)],none,none⟩,⟨none,(.i (.m (.store 1))),[(.tmp 2),(.const (.int .i64 2))],none,none⟩] [[],[],[1],[0],[0,1,2,3],[0,1,2,3,4]] (.quiet 0 (.quiet 1 (.quiet 2 (.branch 3 (.branch 4 (.branch 5 .done .stop) .stop) .stop)))) (some [])) .skip)
theorem zTV:z2f QQ 14 zPB [.plain (some [0,1,2,3,10]),.draw 0 [] [[],[],[1],[0],[0,1,2,3],[0,1,2,3,4]] (.quiet 0 (.quiet 1 (.quiet 2 (.branch 3 (.branch 4 (.branch 5 .done .stop) .stop) .stop)))) (some [])]=some (zSy,[]):=by kernel_rfl
theorem y0r:z9f QQ zMt zUF=some zJr:=by kernel_rfl
theorem zMs:zMt.toList=zUH::zUF:=by kernel_rfl
theorem zNs {a b c:AV} {H:z0B}:zDU QQ 230 [a,b,c] H none (fun _ H'=>∃ G,H'=H++G):=by
 refine zEU (t:=6) (ios:=zJr) z0P Go.Proofs.Tryz.func230 zTb zMs ⟨#[],by kernel_rfl⟩ (by kernel_rfl) (by kernel_rfl) y0r (by kernel_rfl) (show 3≤14 by decide) (by decide) ?_
 refine z7V (n:=14) (K:=fun al H'=>∃ G,H'=H++G∧z1e al 4=.bool false) (Qp:=fun _ _ _=>False) ?_ (fun _ _ _ h=>h) zJr ((6,.niliface)::z7N 0 [a,b,c]) H (by kernel_rfl) ?_
 ·rintro al H' ⟨G,rfl,h4⟩
  refine (z2U z0P mixed zPB _ _ _ zTV (fun x al H'=>(x=.normal∨x=.ret)∧∃ G,H'=H++G) al _ (WI.h ?_)).mono ?_
  ·refine z1E (z0V ?_)
   refine z8K (.bool false) h4 ?_
   refine z8M rfl (zJb ?_)
   exact zHa rfl (z7m ⟨.inl rfl,G,rfl⟩)
  ·rintro x env H' ⟨m,al',rfl,hm,q⟩
   exact q
 ·have:VV QQ zJr [(6,.niliface),(0,a),(1,b),(2,c)] (H++[]) (fun al H'=>∃ G,H'=H++G∧z1e al 4=.bool false) (fun _ _ _=>False):=by
   refine z2K (v:=.tuple [.agg [.int .i64 0],.bool false]) rfl ?_
   refine z8K (.tuple [.agg [.int .i64 0],.bool false]) rfl ?_
   refine z2K (v:=.agg [.int .i64 0]) rfl ?_
   refine z2K (v:=.bool false) rfl ?_
   refine z5g (n:=0) rfl rfl ?_
   refine z3a (n:=0) (.agg [.int .i64 0]) rfl rfl rfl rfl rfl rfl ?_
   refine z8K (.bool false) rfl ?_
   exact ⟨⟨_,rfl,rfl⟩⟩
  rw [lAJ] at this
  exact this.1
theorem zMc {k:Option Nat} {x v:AV} {H G:z0B} (h:z0p k x H=some v):z0p k x (H++G)=some v:=by
 unfold z0p at h ⊢
 split at h
 ·rename_i id off
  split at h
  ·rename_i cs hg
   simp only [z0G hg];exact h
  ·cases h
 ·exact h
 ·cases h
theorem zBD {al:AL} {H G:z0B}:∀ {rs:List RV} {vs:List AV},z9z rs al H=some vs→z9z rs al (H++G)=some vs
 | [],vs,h=>h
 | .tmp t::l,vs,h=>by
  simp only [z9z] at h ⊢
  split at h
  ·rename_i r hr;rw [zBD hr];exact h
  ·cases h
 | .cell t n::l,vs,h=>by
  simp only [z9z] at h ⊢
  split at h
  ·rename_i v r hv hr;rw [zBD hr,zMc hv];exact h
  ·cases h
theorem zHL {n:Nat} {al:AL} {H G:z0B} {rs:List RV} {v:AV} (h:z3P rs al H=some v):z3r rs (mkE n al) (H++G)=some v:=by
 unfold z3P at h
 unfold z3r
 rw [z8X]
 cases hv:z9z rs al H with
 | none=>rw [hv] at h;cases h
 | some vs=>rw [hv] at h;rw [zBD hv];exact h
noncomputable def zMa (call:z3h) (s:List UInt8) (v:AV):Bool :=
 Nat.ble s.length 6000&&zCK call 300 zHc (fun x al H=>match x with | .ret=>(match z3P zQF al H with | some u=>zBA u v | none=>false) | _=>false)
  [(11,.clo (.func 230) [] [.ptr 0 0,.ptr 1 0,.ptr 2 0]),(0,.str s),(2,.ptr 0 0),(3,.ptr 1 0),(4,.ptr 2 0),(9,.bool false)] [.cells [.int .i64 0,.str [],.nilslice],.cells [.int .i64 0],.cells [.int .i64 0]]
theorem zMZ {call:z3h} (hcall:z4e QQ call) {s:List UInt8} {v:AV} (hv:z0N v) (h:zMa call s v=true):z0C QQ 217 [.str s] [] (z1D [] v):=by
 unfold zMa at h
 rw [lAS] at h
 have hs:=lD1 h.1
 refine z0C.gives (zHw (t:=11) (cs:=[.tmp 2,.tmp 3,.tmp 4]) (caps:=[.tmp 2,.tmp 3,.tmp 4]) (p:=#[]) (rs:=zQF) z0P Go.Proofs.Tryz.func217 zTc (by kernel_rfl) (by kernel_rfl) (by kernel_rfl) (by kernel_rfl) (by kernel_rfl) (by kernel_rfl)
  rfl (by unfold hasBody;rw [Go.Proofs.Tryz.func230];rfl) zYV (show 1≤33 by decide) ?_)
 refine (z2U z0P mixed zPE _ _ _ zTY (fun x al H=>x=.normal∧al=[(0,.str s),(2,.ptr 0 0),(3,.ptr 1 0),(4,.ptr 2 0)]∧H=[.cells [.int .i64 0,.str [],.nilslice],.cells [.int .i64 0],.cells [.int .i64 0]]) (z7N 0 [.str s]) [] (WI.h ?_)).mono ?_
 ·refine z0V ?_
  refine z9J (H:=[]) rfl ?_
  refine z9J rfl ?_
  refine z9J rfl ?_
  exact ⟨⟨rfl,rfl,rfl⟩⟩
 rintro x env H' ⟨m,al,rfl,hm,rfl,rfl,rfl⟩
 cases hm rfl
 refine (z2U z0P mixed zPD _ _ _ zTX (fun x al H=>x=.normal∧al=[(0,.str s),(2,.ptr 0 0),(3,.ptr 1 0),(4,.ptr 2 0),(9,.bool false)]∧H=[.cells [.int .i64 0,.str [],.nilslice],.cells [.int .i64 0],.cells [.int .i64 0]]) _ _ (WI.h ?_)).mono ?_
 ·refine z1E (z0V ?_)
  refine z8K (.str s) rfl ?_
  refine z2K (v:=.int .i64 s.length) rfl ?_
  refine z2K (v:=.bool (decide ((s.length:Int)>6000))) rfl ?_
  refine z8M (al':=[(0,.str s),(2,.ptr 0 0),(3,.ptr 1 0),(4,.ptr 2 0),(9,.bool false)]) ?_ (zJb ?_)
  ·have:decide ((s.length:Int)>6000)=false:=by simp;omega
   rw [this];rfl
  ·exact zHa rfl (z7m ⟨rfl,rfl,rfl⟩)
 rintro x env H' ⟨m,al,rfl,hm,rfl,rfl,rfl⟩
 cases hm rfl
 refine ⟨show 11<33 by decide,?_⟩
 refine (z2U z0P mixed zPC _ _ _ zTW (fun x al H=>x=.ret∧z3P zQF al H=some v)
  [(11,.clo (.func 230) [] [.ptr 0 0,.ptr 1 0,.ptr 2 0]),(0,.str s),(2,.ptr 0 0),(3,.ptr 1 0),(4,.ptr 2 0),(9,.bool false)] _ ?_).mono ?_
 ·refine z2V hcall 300 zHc _ _ ?_ _ _ h.2
  intro x al H q al' hal
  cases x with
  | ret =>
   cases hal rfl
   simp only at q
   split at q
   ·rename_i u hu;rw [←z4Y q];exact ⟨rfl,hu⟩
   ·cases q
  | _=>cases q
 rintro x env H' ⟨m,al,rfl,hm,rfl,hr⟩
 have:=zNs (a:=.ptr 0 0) (b:=.ptr 1 0) (c:=.ptr 2 0) (H:=H')
 intro φ σ cargs w hrel hc u hu
 refine (this φ σ cargs w hrel hc u hu).mono ?_
 rintro e u' w' ⟨φ',σ',H'',r,he,s',kp,hu',G,rfl⟩
 exact ⟨φ',σ',_,r,he,s',kp,hu',v,zHL hr,z2Z (H:=[]) hv⟩
end Go.Ab
