/- Part 34 of the proof. -/
import Derived.Test.YtagcckioikbanaaGreatDoorRows
import Derived.Test.YtagcckioikbanaaGreatDoorA26
import Derived.Test.YtagcckioikbanaaGreatDoorA33
set_option linter.unusedVariables false
set_option linter.unusedSimpArgs false
namespace Go.Ab
open Go Go.ChangeShapes
open Go.Proofs.YtagcckioikbanaaGreatDoor.Rows (uptoBulk uptoBulkAll)
set_option maxRecDepth 100000
def zJM {α:Type} (g:α→Nat):List α→Nat
 | []=>0
 | x::xs=>g x+zJM g xs
theorem zDa {α:Type} {g:α→Nat} {l:List α} {x:α} (h:x∈l):g x≤zJM g l:=by
 induction l with
 | nil=>cases h
 | cons y ys ih =>
  simp only [zJM]
  rcases lAV.1 h with rfl | h
  ·omega
  ·have:=ih h;omega
theorem z7k {α:Type} {g:α→Nat} (hg:∀ x,1≤g x):∀ l:List α,l.length≤zJM g l
 | []=>lAL _
 | x::xs=>by have:=z7k hg xs;have:=hg x;simp only [zJM,lBC];omega
section
variable {H:Type} {enc':TypeId × Value→H} {w:World} {base:Nat} {spare:Nat→Bool} {held:Bool}
theorem zAj {α:Type} {g:α→Nat}:∀ (l:List α) (ds:List (DataW H)),l.length=ds.length→(∀ (i:Nat) (a:α),l[i]? =some a→∃ d,ds[i]? =some d∧g a≤uptoBulk d)→zJM g l≤uptoBulkAll ds
 | [],[],_,_=>by simp [zJM]
 | [],_::_,h,_=>by simp at h
 | _::_,[],h,_=>by simp at h
 | x::xs,d::ds,h,hp=>by
  obtain ⟨d',h1,h2⟩:=hp 0 x rfl
  simp at h1;subst h1
  have:=zAj xs ds (by simpa using h) fun i a ha=>by simpa using hp (i+1) a (by simpa using ha)
  simp only [zJM,uptoBulkAll];omega
theorem z7C {x:DataW H} (h:x=.nil∨∃ sp,x=.slice (z5q x) sp):uptoBulkAll (z5q x)+1≤uptoBulk x:=by
 rcases h with h | ⟨sp,h⟩
 ·rw [h];simp [z5q,uptoBulk,uptoBulkAll]
 ·generalize z5q x=es at *
  subst h
  simp only [uptoBulk];omega
theorem zRe:PP.cellsOf 9=1:=by kernel_rfl
theorem zNy:PP.cellsOf 26=1:=by kernel_rfl
theorem zTS:PP.cellsOf 46=1:=by kernel_rfl
theorem zEX:PP.cellsOf 48=3:=by kernel_rfl
theorem zNw:PP.cellsOf 50=6:=by kernel_rfl
theorem zNx:PP.cellsOf 44=2:=by kernel_rfl
theorem zNz:PP.cellsOf 25=4:=by kernel_rfl
theorem zTU:PP.cellsOf 22=1:=by kernel_rfl
theorem zTT:PP.cellsOf 23=1:=by kernel_rfl
theorem zRf:PP.cellsOf 3=1:=by kernel_rfl
theorem zYW:PP.cellsOf 4=1:=by kernel_rfl
def wdB (w:List Bt):Nat:=zJM (fun s=>s.length+1) w
theorem zLr:∀ w:List Bt,wdB w=w.length+tot w
 | []=>rfl
 | s::w=>by
  have:=zLr w
  unfold wdB at *
  simp only [zJM,this,tot,lBC];omega
theorem z6X (hsp:∀ b,spare b=true) {fuel:Nat} {cs:List Value} {x:DataW H × List MemPlace} (h:DataW.trod enc' PP w base spare held fuel 26 cs=some x) :
  ∃ u:Wd,RelC w [z0X u] cs∧wdB u.l+1≤uptoBulk x.1:=by
 obtain ⟨nl,l,h1,h2,h3,h4⟩:=z8c (f:=AV.str) (R:=fun s d=>d=.lit (.string s)) Go.Proofs.Tryz.underlying26 zRe (by omega) (fun _=>rfl) hsp h
  fun n cs' y _ hy=>by
   obtain ⟨s,a,b⟩:=zFd Go.Proofs.Tryz.underlying9 hy
   exact ⟨s,a,b⟩
 refine ⟨⟨nl,l⟩,?_,?_⟩
 ·have e:z0X ⟨nl,l⟩=if nl&&(List.map AV.str l).isEmpty then AV.nilslice else .list 1 (l.map .str):=by unfold z0X;simp
  rw [show z0X ⟨nl,l⟩=if nl&&l.isEmpty then AV.nilslice else .list 1 (l.map .str) from rfl]
  exact h1
 ·have hs:wdB l≤_:=zAj (g:=fun s:Bt=>s.length+1) l _ h2 fun i a ha=>by
   obtain ⟨d,g1,rfl⟩:=h4 i a ha
   exact ⟨_,g1,by simp [uptoBulk]⟩
  have:=z7C h3
  show wdB l+1≤_
  omega
theorem zHj (e:Ex):(enc e).cells.length=3:=by obtain ⟨a,b,c,d⟩:=e;rw [z0e];rfl
theorem zRM:∀ l:List Ex,ws l=zJM Ex.w l
 | []=>rfl
 | x::xs=>by simp only [ws,zJM,zRM xs]
theorem zMw (hsp:∀ b,spare b=true):∀ (fuel:Nat) {cs:List Value} {x:DataW H × List MemPlace},DataW.trod enc' PP w base spare held fuel 48 cs=some x →
  ∃ e:Ex,RelC w (enc e).cells cs∧e.w≤uptoBulk x.1:=by
 intro fuel
 induction fuel using Nat.strongRecOn with
 | ind fuel ih =>
  intro cs x h
  obtain ⟨xs,n,rfl,rfl,hl,hlen,hf⟩:=DataW.trod_struct Go.Proofs.Tryz.underlying48 h
  rw [zEX] at hl
  match xs,hlen,cs,hl with
  | [y0,y1,y2],_,[c0,c1,c2],_ =>
   have g0:DataW.trod enc' PP w base spare held n 3 (([c0,c1,c2].drop 0).take (PP.cellsOf 3))=some y0:=hf 0 _ rfl
   rw [zRf] at g0
   have g1:DataW.trod enc' PP w base spare held n 9 (([c0,c1,c2].drop 1).take (PP.cellsOf 9))=some y1:=hf 1 _ rfl
   rw [zRe] at g1
   have g2:DataW.trod enc' PP w base spare held n 46 (([c0,c1,c2].drop 2).take (PP.cellsOf 46))=some y2:=hf 2 _ rfl
   rw [zTS] at g2
   have g0:DataW.trod enc' PP w base spare held n 3 [c0]=some y0:=g0
   have g1:DataW.trod enc' PP w base spare held n 9 [c1]=some y1:=g1
   have g2:DataW.trod enc' PP w base spare held n 46 [c2]=some y2:=g2
   obtain ⟨op,r0,b0⟩:=zFe Go.Proofs.Tryz.underlying3 g0
   obtain ⟨s,r1,b1⟩:=zFd Go.Proofs.Tryz.underlying9 g1
   obtain ⟨nl,l,r2,h2,h3,h4⟩:=z8c (f:=enc) (R:=fun e d=>e.w≤uptoBulk d) Go.Proofs.Tryz.underlying46 zEX (by omega) zHj hsp g2
    fun m cs' y hm hy=>ih m (by omega) hy
   refine ⟨.mk op s nl l,?_,?_⟩
   ·rw [z0e]
    exact (r0.append r1).append r2
   ·have h5:=zAj (g:=Ex.w) l _ h2 h4
    have h6:=z7C h3
    simp only [Ex.w,zRM]
    simp only [lBA,lCU,uptoBulk,uptoBulkAll,b0,b1]
    omega
theorem zBm (p:Pl):(z1L p).cells=(enc p.1).cells++(enc p.2).cells:=by
 obtain ⟨⟨a,b,c,d⟩,⟨a',b',c',d'⟩⟩:=p
 simp only [z0e];rfl
def plB (p:Pl):Nat:=p.1.w+p.2.w+1
def prB (p:Pr):Nat:=wdB p.a.l+wdB p.b.l+1
theorem zKv (hsp:∀ b,spare b=true) {fuel:Nat} {cs:List Value} {x:DataW H × List MemPlace} (h:DataW.trod enc' PP w base spare held fuel 50 cs=some x) :
  ∃ p:Pl,RelC w (z1L p).cells cs∧plB p≤uptoBulk x.1:=by
 obtain ⟨xs,n,rfl,rfl,hl,hlen,hf⟩:=DataW.trod_struct Go.Proofs.Tryz.underlying50 h
 rw [zNw] at hl
 match xs,hlen,cs,hl with
 | [y0,y1],_,[c0,c1,c2,c3,c4,c5],_ =>
  have g0:DataW.trod enc' PP w base spare held n 48 (([c0,c1,c2,c3,c4,c5].drop 0).take (PP.cellsOf 48))=some y0:=hf 0 _ rfl
  rw [zEX] at g0
  have g1:DataW.trod enc' PP w base spare held n 48 (([c0,c1,c2,c3,c4,c5].drop 3).take (PP.cellsOf 48))=some y1:=hf 1 _ rfl
  rw [zEX] at g1
  have g0:DataW.trod enc' PP w base spare held n 48 [c0,c1,c2]=some y0:=g0
  have g1:DataW.trod enc' PP w base spare held n 48 [c3,c4,c5]=some y1:=g1
  obtain ⟨a,r0,b0⟩:=zMw hsp _ g0
  obtain ⟨b,r1,b1⟩:=zMw hsp _ g1
  refine ⟨(a,b),?_,?_⟩
  ·rw [zBm];exact r0.append r1
  ·simp only [lBA,lCU,uptoBulk,uptoBulkAll,plB];omega
theorem zMv (hsp:∀ b,spare b=true) {fuel:Nat} {cs:List Value} {x:DataW H × List MemPlace} (h:DataW.trod enc' PP w base spare held fuel 44 cs=some x) :
  ∃ p:Pr,RelC w (z2e p).cells cs∧prB p≤uptoBulk x.1:=by
 obtain ⟨xs,n,rfl,rfl,hl,hlen,hf⟩:=DataW.trod_struct Go.Proofs.Tryz.underlying44 h
 rw [zNx] at hl
 match xs,hlen,cs,hl with
 | [y0,y1],_,[c0,c1],_ =>
  have g0:DataW.trod enc' PP w base spare held n 26 (([c0,c1].drop 0).take (PP.cellsOf 26))=some y0:=hf 0 _ rfl
  rw [zNy] at g0
  have g1:DataW.trod enc' PP w base spare held n 26 (([c0,c1].drop 1).take (PP.cellsOf 26))=some y1:=hf 1 _ rfl
  rw [zNy] at g1
  have g0:DataW.trod enc' PP w base spare held n 26 [c0]=some y0:=g0
  have g1:DataW.trod enc' PP w base spare held n 26 [c1]=some y1:=g1
  obtain ⟨a,r0,b0⟩:=z6X hsp g0
  obtain ⟨b,r1,b1⟩:=z6X hsp g1
  refine ⟨⟨a,b⟩,?_,?_⟩
  ·exact r0.append r1
  ·simp only [lBA,lCU,uptoBulk,uptoBulkAll,prB];omega
def ruB (r:Ru):Nat:=zJM prB r.pairs+zJM plB r.places
theorem zMu (hsp:∀ b,spare b=true) {fuel:Nat} {cs:List Value} {x:DataW H × List MemPlace} (h:DataW.trod enc' PP w base spare held fuel 25 cs=some x) :
  ∃ r:Ru,RelC w (z6F r).cells cs∧ruB r≤uptoBulk x.1:=by
 obtain ⟨xs,n,rfl,rfl,hl,hlen,hf⟩:=DataW.trod_struct Go.Proofs.Tryz.underlying25 h
 rw [zNz] at hl
 match xs,hlen,cs,hl with
 | [y0,y1,y2,y3],_,[c0,c1,c2,c3],_ =>
  have g0:DataW.trod enc' PP w base spare held n 3 (([c0,c1,c2,c3].drop 0).take (PP.cellsOf 3))=some y0:=hf 0 _ rfl
  rw [zRf] at g0
  have g1:DataW.trod enc' PP w base spare held n 22 (([c0,c1,c2,c3].drop 1).take (PP.cellsOf 22))=some y1:=hf 1 _ rfl
  rw [zTU] at g1
  have g2:DataW.trod enc' PP w base spare held n 23 (([c0,c1,c2,c3].drop 2).take (PP.cellsOf 23))=some y2:=hf 2 _ rfl
  rw [zTT] at g2
  have g3:DataW.trod enc' PP w base spare held n 4 (([c0,c1,c2,c3].drop 3).take (PP.cellsOf 4))=some y3:=hf 3 _ rfl
  rw [zYW] at g3
  have g0:DataW.trod enc' PP w base spare held n 3 [c0]=some y0:=g0
  have g1:DataW.trod enc' PP w base spare held n 22 [c1]=some y1:=g1
  have g2:DataW.trod enc' PP w base spare held n 23 [c2]=some y2:=g2
  have g3:DataW.trod enc' PP w base spare held n 4 [c3]=some y3:=g3
  obtain ⟨kind,r0,b0⟩:=zFe Go.Proofs.Tryz.underlying3 g0
  obtain ⟨below,r3,b3⟩:=zKw Go.Proofs.Tryz.underlying4 g3
  obtain ⟨pn,ps,r1,p2,p3,p4⟩:=z8c (f:=z2e) (R:=fun e d=>prB e≤uptoBulk d) Go.Proofs.Tryz.underlying22 zNx (by omega) (fun _=>rfl) hsp g1
   fun m cs' y hm hy=>zMv hsp hy
  obtain ⟨ln,ls,r2,l2,l3,l4⟩:=z8c (f:=z1L) (R:=fun e d=>plB e≤uptoBulk d) Go.Proofs.Tryz.underlying23 zNw (by omega) (fun p=>by rw [zBm,lAH,zHj,zHj]) hsp g2
   fun m cs' y hm hy=>zKv hsp hy
  refine ⟨⟨kind,pn,ps,ln,ls,below⟩,?_,?_⟩
  ·exact ((r0.append r1).append r2).append r3
  ·have h5:=zAj (g:=prB) ps _ p2 p4
   have h6:=z7C p3
   have h7:=zAj (g:=plB) ls _ l2 l4
   have h8:=z7C l3
   simp only [lBA,lCU,uptoBulk,uptoBulkAll,ruB]
   omega
end
theorem zBN {w:List Bt} {n:Nat} (h:wdB w≤n) (hn:n≤1000000000000):okW w∧okT w∧w.length≤n:=by
 have h1:=zLr w
 refine ⟨⟨by omega,fun s hs=>?_⟩,by unfold okT;omega,by omega⟩
 have h2:s.length+1≤wdB w:=zDa (g:=fun s:Bt=>s.length+1) hs
 show s.length≤1000000000000
 omega
end Go.Ab
