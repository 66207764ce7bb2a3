/- Part 46 of the proof. -/
import Derived.Test.YtagcckioikbanaaGreatDoorM33
import Derived.Test.YtagcckioikbanaaGreatDoorM44
import Derived.Test.YtagcckioikbanaaGreatDoorM45
set_option linter.unusedVariables false
set_option linter.unusedSimpArgs false
namespace Go.Ab
open Go
set_option maxRecDepth 100000
set_option maxHeartbeats 16000000
theorem zEJ {ps:List (Bt × Bt)} {fs gs:List (Bt→Bool)} {a:Bt}:∀ l∈z4M ps fs gs a,l.length≤ps.length∧∀ q∈l,q.1<ps.length:=by
 intro l hl
 unfold z4M at hl
 obtain ⟨p,hp,rfl⟩:=lA4.1 hl
 unfold z8M
 refine ⟨by rw [lAE];exact z5L _ _,fun q hq=>?_⟩
 obtain ⟨n,hn,rfl⟩:=lA4.1 hq
 exact lAZ.1 (lCC.1 hn).1
structure HoldOk (sg:List Bt) (r:Ru) (x y:List Bt):Prop where
 ru:RuOk sg r
 kd:r.kind=0∨r.kind=1∨r.kind=2∨r.kind=3
 xi:∀ t∈x,t∈sg
 xl:x.length≤60
 yl:y.length≤60
 asc:zCX sg
 sn:sg.length≤256
set_option maxHeartbeats 4000000
theorem a9 {wsv:AV} {vs:List AV} {ws:List (List Bt)} (hs:Sl 1 wsv vs) (hl:vs.length=ws.length) (hone:∀ v∈vs,v.cells=[v])
  (hg:∀ (i:Nat) (v:AV) (w:List Bt),vs[i]? =some v→ws[i]? =some w→Sl 1 v (w.map .str)∧okT w) (hn:ws.length≤1000) (H:z0B):z0D PP 6 [wsv] H (z1A H (.int .i64 (ws.foldl nww 0:Nat))):=by
 refine z0D.gives (is6.c1 z0R mixed rfl ?_)
 rw [lAK]
 refine z0A ?_
 refine z0F ws.length (fun i al H'=>∃ n:Nat,al=[(0,wsv),(3,.int .i64 n),(4,.int .i64 i)]∧H'=H∧n≤i*1000000000000∧(ws.drop i).foldl nww n=ws.foldl nww 0) ⟨0,rfl,rfl,by omega,rfl⟩ ?_
 rintro i _ H hi ⟨n,rfl,rfl,hnb,hv⟩
 have e1:decide ((i:Int)<(vs.length:Int))=decide (i<ws.length):=by rw [hl];simp only [lAP];omega
 refine z0A ?_
 rw [e1]
 cases hc:decide (i<ws.length)
 ·simp only [lAC] at hc
  rw [lCG (by omega)] at hv
  refine z0A ?_
  rw [←hv]
  exact z0Y rfl (z0s (z0N.int _ _))
 simp only [lAD] at hc
 obtain ⟨w,hw⟩:=z0M (l:=ws) (i:=i) hc
 obtain ⟨v,hvi⟩:=z0M (l:=vs) (i:=i) (by omega)
 obtain ⟨hsl,hok⟩:=hg i v w hvi hw
 have hcell:=hone v (lAF hvi)
 unfold okT at hok
 have lw:(w.map AV.str).length=w.length:=lAE _
 rw [z2Q hw,List.foldl_cons] at hv
 refine z0A ?_
 rw [hcell]
 refine z0A ?_
 rw [lw]
 refine z2A (a:=n) (b:=w.length) (by rfl) (by rfl) (by omega) ?_
 refine z0A ?_
 refine z0F w.length (fun j al H'=>∃ m:Nat,al=[(0,wsv),(3,.int .i64 m),(4,.int .i64 i),(5,.int .i64 j)]∧H'=H∧m≤n+w.length+tot (w.take j)∧nww n w=nw m (w.drop j)) ⟨n+w.length,rfl,rfl,by omega,rfl⟩ ?_
 rintro j _ H hj ⟨m,rfl,rfl,hmb,hm⟩
 have ht:=z9n w j
 have e2:decide ((j:Int)<((w.map AV.str).length:Int))=decide (j<w.length):=by rw [lw];simp only [lAP];omega
 refine z0A ?_
 rw [hcell]
 refine z0A ?_
 rw [e2]
 cases hc2:decide (j<w.length)
 ·simp only [lAC] at hc2
  rw [lCG (by omega)] at hm
  have hm':nww n w=m:=hm
  refine z0A ?_
  exact ⟨hc,m,rfl,rfl,by rw [lAS (by omega)] at hmb;omega,by rw [←hm'];exact hv⟩
 simp only [lAD] at hc2
 obtain ⟨c,hcg⟩:=z0M (l:=w) (i:=j) hc2
 have hu:(w.map AV.str)[j]? =some (.str c):=by rw [lAM,hcg];rfl
 rw [z2Q hcg] at hm
 simp only [nw] at hm
 refine z0A ?_
 refine z0Q _ rfl ?_ ?_<;>intro hq
 ·simp only [lAD] at hq
  rw [if_pos (by omega)] at hm
  have h1:=zCa hcg
  have h2:=z9n w (j+1)
  refine z0A ?_
  rw [hcell]
  refine z0A ?_
  refine z2A (a:=m) (b:=c.length) (by rfl) (by rfl) (by omega) ?_
  refine z0A ?_
  exact ⟨hc2,m+c.length,rfl,rfl,by omega,hm⟩
 ·simp only [lAC] at hq
  rw [if_neg (by omega)] at hm
  refine z0A ?_
  exact ⟨hc,m,rfl,rfl,by omega,by rw [←hm];exact hv⟩
set_option maxHeartbeats 16000000
section
variable {D:Nat→Bt→Bool} {aid mid:Nat} {H:z0B}
end
theorem zHZ (b:Bool) (e:Int):z0N (.tuple [.bool b,.int .i64 e]):=z0N.tuple fun x hx=>by
 simp only [lAT,lA5,or_false] at hx
 rcases hx with rfl | rfl
 ·exact z0N.bool _
 ·exact z0N.int _ _
section
variable {r:Ru} {sv xv yv:AV} {sg x y:List Bt}
end
end Go.Ab
