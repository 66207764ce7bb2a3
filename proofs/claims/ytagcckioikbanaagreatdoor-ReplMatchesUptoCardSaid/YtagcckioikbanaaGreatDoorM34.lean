/- Part 34 of the proof. -/
import Derived.Test.YtagcckioikbanaaGreatDoorRows
import Derived.Test.YtagcckioikbanaaGreatDoorM26
import Derived.Test.YtagcckioikbanaaGreatDoorM33
set_option linter.unusedVariables false
set_option linter.unusedSimpArgs false
namespace Go.Ab
open Go Go.ChangeShapes
open Go.Proofs.YtagcckioikbanaaGreatDoor.Rows (uptoBulk uptoBulkAll)
set_option maxRecDepth 100000
def zHH {α:Type} (g:α→Nat):List α→Nat
 | []=>0
 | x::xs=>g x+zHH g xs
theorem zCc {α:Type} {g:α→Nat} {l:List α} {x:α} (h:x∈l):g x≤zHH g l:=by
 induction l with
 | nil=>cases h
 | cons y ys ih =>
  simp only [zHH]
  rcases lAT.1 h with rfl | h
  ·omega
  ·have:=ih h;omega
theorem z7H {α:Type} {g:α→Nat} (hg:∀ x,1≤g x):∀ l:List α,l.length≤zHH g l
 | []=>lAL _
 | x::xs=>by have:=z7H hg xs;have:=hg x;simp only [zHH,lBE];omega
section
variable {H:Type} {enc':TypeId × Value→H} {w:World} {base:Nat} {spare:Nat→Bool} {held:Bool}
theorem z9v {α:Type} {g:α→Nat}:∀ (l:List α) (ds:List (DataW H)),l.length=ds.length→(∀ (i:Nat) (a:α),l[i]? =some a→∃ d,ds[i]? =some d∧g a≤uptoBulk d)→zHH g l≤uptoBulkAll ds
 | [],[],_,_=>by simp [zHH]
 | [],_::_,h,_=>by simp at h
 | _::_,[],h,_=>by simp at h
 | x::xs,d::ds,h,hp=>by
  obtain ⟨d',h1,h2⟩:=hp 0 x rfl
  simp at h1;subst h1
  have:=z9v xs ds (by simpa using h) fun i a ha=>by simpa using hp (i+1) a (by simpa using ha)
  simp only [zHH,uptoBulkAll];omega
theorem z6Z {x:DataW H} (h:x=.nil∨∃ sp,x=.slice (z5N x) sp):uptoBulkAll (z5N x)+1≤uptoBulk x:=by
 rcases h with h | ⟨sp,h⟩
 ·rw [h];simp [z5N,uptoBulk,uptoBulkAll]
 ·generalize z5N x=es at *
  subst h
  simp only [uptoBulk];omega
theorem zQg:PP.cellsOf 9=1:=by kernel_rfl
theorem zMw:PP.cellsOf 26=1:=by kernel_rfl
theorem zSJ:PP.cellsOf 46=1:=by kernel_rfl
theorem zDX:PP.cellsOf 48=3:=by kernel_rfl
theorem zMu:PP.cellsOf 50=6:=by kernel_rfl
theorem zMv:PP.cellsOf 44=2:=by kernel_rfl
theorem zSK:PP.cellsOf 25=4:=by kernel_rfl
theorem zSM:PP.cellsOf 22=1:=by kernel_rfl
theorem zSL:PP.cellsOf 23=1:=by kernel_rfl
theorem zQh:PP.cellsOf 3=1:=by kernel_rfl
theorem zXL:PP.cellsOf 4=1:=by kernel_rfl
def wdB (w:List Bt):Nat:=zHH (fun s=>s.length+1) w
theorem zKn:∀ w:List Bt,wdB w=w.length+tot w
 | []=>rfl
 | s::w=>by
  have:=zKn w
  unfold wdB at *
  simp only [zHH,this,tot,lBE];omega
theorem z7q (hsp:∀ b,spare b=true) {fuel:Nat} {cs:List Value} {x:DataW H × List MemPlace} (h:DataW.trod enc' PP w base spare held fuel 26 cs=some x) :
  ∃ u:Wd,RelC w [z0X u] cs∧wdB u.l+1≤uptoBulk x.1:=by
 obtain ⟨nl,l,h1,h2,h3,h4⟩:=z7r (f:=AV.str) (R:=fun s d=>d=.lit (.string s)) Go.Proofs.Tryz.underlying26 zQg (by omega) (fun _=>rfl) hsp h
  fun n cs' y _ hy=>by
   obtain ⟨s,a,b⟩:=zEc Go.Proofs.Tryz.underlying9 hy
   exact ⟨s,a,b⟩
 refine ⟨⟨nl,l⟩,?_,?_⟩
 ·have e:z0X ⟨nl,l⟩=if nl&&(List.map AV.str l).isEmpty then AV.nilslice else .list 1 (l.map .str):=by unfold z0X;simp
  rw [show z0X ⟨nl,l⟩=if nl&&l.isEmpty then AV.nilslice else .list 1 (l.map .str) from rfl]
  exact h1
 ·have hs:wdB l≤_:=z9v (g:=fun s:Bt=>s.length+1) l _ h2 fun i a ha=>by
   obtain ⟨d,g1,rfl⟩:=h4 i a ha
   exact ⟨_,g1,by simp [uptoBulk]⟩
  have:=z6Z h3
  show wdB l+1≤_
  omega
theorem zGg (e:Ex):(enc e).cells.length=3:=by obtain ⟨a,b,c,d⟩:=e;rw [z0a];rfl
theorem zQM:∀ l:List Ex,ws l=zHH Ex.w l
 | []=>rfl
 | x::xs=>by simp only [ws,zHH,zQM xs]
theorem zLt (hsp:∀ b,spare b=true):∀ (fuel:Nat) {cs:List Value} {x:DataW H × List MemPlace},DataW.trod enc' PP w base spare held fuel 48 cs=some x →
  ∃ e:Ex,RelC w (enc e).cells cs∧e.w≤uptoBulk x.1:=by
 intro fuel
 induction fuel using Nat.strongRecOn with
 | ind fuel ih =>
  intro cs x h
  obtain ⟨xs,n,rfl,rfl,hl,hlen,hf⟩:=DataW.trod_struct Go.Proofs.Tryz.underlying48 h
  rw [zDX] at hl
  match xs,hlen,cs,hl with
  | [y0,y1,y2],_,[c0,c1,c2],_ =>
   have g0:DataW.trod enc' PP w base spare held n 3 (([c0,c1,c2].drop 0).take (PP.cellsOf 3))=some y0:=hf 0 _ rfl
   rw [zQh] at g0
   have g1:DataW.trod enc' PP w base spare held n 9 (([c0,c1,c2].drop 1).take (PP.cellsOf 9))=some y1:=hf 1 _ rfl
   rw [zQg] at g1
   have g2:DataW.trod enc' PP w base spare held n 46 (([c0,c1,c2].drop 2).take (PP.cellsOf 46))=some y2:=hf 2 _ rfl
   rw [zSJ] at g2
   have g0:DataW.trod enc' PP w base spare held n 3 [c0]=some y0:=g0
   have g1:DataW.trod enc' PP w base spare held n 9 [c1]=some y1:=g1
   have g2:DataW.trod enc' PP w base spare held n 46 [c2]=some y2:=g2
   obtain ⟨op,r0,b0⟩:=zEd Go.Proofs.Tryz.underlying3 g0
   obtain ⟨s,r1,b1⟩:=zEc Go.Proofs.Tryz.underlying9 g1
   obtain ⟨nl,l,r2,h2,h3,h4⟩:=z7r (f:=enc) (R:=fun e d=>e.w≤uptoBulk d) Go.Proofs.Tryz.underlying46 zDX (by omega) zGg hsp g2
    fun m cs' y hm hy=>ih m (by omega) hy
   refine ⟨.mk op s nl l,?_,?_⟩
   ·rw [z0a]
    exact (r0.append r1).append r2
   ·have h5:=z9v (g:=Ex.w) l _ h2 h4
    have h6:=z6Z h3
    simp only [Ex.w,zQM]
    simp only [lA6,lCZ,uptoBulk,uptoBulkAll,b0,b1]
    omega
theorem zAv (p:Pl):(z0x p).cells=(enc p.1).cells++(enc p.2).cells:=by
 obtain ⟨⟨a,b,c,d⟩,⟨a',b',c',d'⟩⟩:=p
 simp only [z0a];rfl
def plB (p:Pl):Nat:=p.1.w+p.2.w+1
def prB (p:Pr):Nat:=wdB p.a.l+wdB p.b.l+1
theorem zJp (hsp:∀ b,spare b=true) {fuel:Nat} {cs:List Value} {x:DataW H × List MemPlace} (h:DataW.trod enc' PP w base spare held fuel 50 cs=some x) :
  ∃ p:Pl,RelC w (z0x p).cells cs∧plB p≤uptoBulk x.1:=by
 obtain ⟨xs,n,rfl,rfl,hl,hlen,hf⟩:=DataW.trod_struct Go.Proofs.Tryz.underlying50 h
 rw [zMu] at hl
 match xs,hlen,cs,hl with
 | [y0,y1],_,[c0,c1,c2,c3,c4,c5],_ =>
  have g0:DataW.trod enc' PP w base spare held n 48 (([c0,c1,c2,c3,c4,c5].drop 0).take (PP.cellsOf 48))=some y0:=hf 0 _ rfl
  rw [zDX] at g0
  have g1:DataW.trod enc' PP w base spare held n 48 (([c0,c1,c2,c3,c4,c5].drop 3).take (PP.cellsOf 48))=some y1:=hf 1 _ rfl
  rw [zDX] at g1
  have g0:DataW.trod enc' PP w base spare held n 48 [c0,c1,c2]=some y0:=g0
  have g1:DataW.trod enc' PP w base spare held n 48 [c3,c4,c5]=some y1:=g1
  obtain ⟨a,r0,b0⟩:=zLt hsp _ g0
  obtain ⟨b,r1,b1⟩:=zLt hsp _ g1
  refine ⟨(a,b),?_,?_⟩
  ·rw [zAv];exact r0.append r1
  ·simp only [lA6,lCZ,uptoBulk,uptoBulkAll,plB];omega
theorem zLs (hsp:∀ b,spare b=true) {fuel:Nat} {cs:List Value} {x:DataW H × List MemPlace} (h:DataW.trod enc' PP w base spare held fuel 44 cs=some x) :
  ∃ p:Pr,RelC w (z2W p).cells cs∧prB p≤uptoBulk x.1:=by
 obtain ⟨xs,n,rfl,rfl,hl,hlen,hf⟩:=DataW.trod_struct Go.Proofs.Tryz.underlying44 h
 rw [zMv] at hl
 match xs,hlen,cs,hl with
 | [y0,y1],_,[c0,c1],_ =>
  have g0:DataW.trod enc' PP w base spare held n 26 (([c0,c1].drop 0).take (PP.cellsOf 26))=some y0:=hf 0 _ rfl
  rw [zMw] at g0
  have g1:DataW.trod enc' PP w base spare held n 26 (([c0,c1].drop 1).take (PP.cellsOf 26))=some y1:=hf 1 _ rfl
  rw [zMw] at g1
  have g0:DataW.trod enc' PP w base spare held n 26 [c0]=some y0:=g0
  have g1:DataW.trod enc' PP w base spare held n 26 [c1]=some y1:=g1
  obtain ⟨a,r0,b0⟩:=z7q hsp g0
  obtain ⟨b,r1,b1⟩:=z7q hsp g1
  refine ⟨⟨a,b⟩,?_,?_⟩
  ·exact r0.append r1
  ·simp only [lA6,lCZ,uptoBulk,uptoBulkAll,prB];omega
def ruB (r:Ru):Nat:=zHH prB r.pairs+zHH plB r.places
theorem zLr (hsp:∀ b,spare b=true) {fuel:Nat} {cs:List Value} {x:DataW H × List MemPlace} (h:DataW.trod enc' PP w base spare held fuel 25 cs=some x) :
  ∃ r:Ru,RelC w (z6e r).cells cs∧ruB r≤uptoBulk x.1:=by
 obtain ⟨xs,n,rfl,rfl,hl,hlen,hf⟩:=DataW.trod_struct Go.Proofs.Tryz.underlying25 h
 rw [zSK] at hl
 match xs,hlen,cs,hl with
 | [y0,y1,y2,y3],_,[c0,c1,c2,c3],_ =>
  have g0:DataW.trod enc' PP w base spare held n 3 (([c0,c1,c2,c3].drop 0).take (PP.cellsOf 3))=some y0:=hf 0 _ rfl
  rw [zQh] at g0
  have g1:DataW.trod enc' PP w base spare held n 22 (([c0,c1,c2,c3].drop 1).take (PP.cellsOf 22))=some y1:=hf 1 _ rfl
  rw [zSM] at g1
  have g2:DataW.trod enc' PP w base spare held n 23 (([c0,c1,c2,c3].drop 2).take (PP.cellsOf 23))=some y2:=hf 2 _ rfl
  rw [zSL] at g2
  have g3:DataW.trod enc' PP w base spare held n 4 (([c0,c1,c2,c3].drop 3).take (PP.cellsOf 4))=some y3:=hf 3 _ rfl
  rw [zXL] at g3
  have g0:DataW.trod enc' PP w base spare held n 3 [c0]=some y0:=g0
  have g1:DataW.trod enc' PP w base spare held n 22 [c1]=some y1:=g1
  have g2:DataW.trod enc' PP w base spare held n 23 [c2]=some y2:=g2
  have g3:DataW.trod enc' PP w base spare held n 4 [c3]=some y3:=g3
  obtain ⟨kind,r0,b0⟩:=zEd Go.Proofs.Tryz.underlying3 g0
  obtain ⟨below,r3,b3⟩:=zJq Go.Proofs.Tryz.underlying4 g3
  obtain ⟨pn,ps,r1,p2,p3,p4⟩:=z7r (f:=z2W) (R:=fun e d=>prB e≤uptoBulk d) Go.Proofs.Tryz.underlying22 zMv (by omega) (fun _=>rfl) hsp g1
   fun m cs' y hm hy=>zLs hsp hy
  obtain ⟨ln,ls,r2,l2,l3,l4⟩:=z7r (f:=z0x) (R:=fun e d=>plB e≤uptoBulk d) Go.Proofs.Tryz.underlying23 zMu (by omega) (fun p=>by rw [zAv,lAH,zGg,zGg]) hsp g2
   fun m cs' y hm hy=>zJp hsp hy
  refine ⟨⟨kind,pn,ps,ln,ls,below⟩,?_,?_⟩
  ·exact ((r0.append r1).append r2).append r3
  ·have h5:=z9v (g:=prB) ps _ p2 p4
   have h6:=z6Z p3
   have h7:=z9v (g:=plB) ls _ l2 l4
   have h8:=z6Z l3
   simp only [lA6,lCZ,uptoBulk,uptoBulkAll,ruB]
   omega
end
theorem zEh {w:List Bt} {n:Nat} (h:wdB w≤n) (hn:n≤1000000000000):okW w∧okT w∧w.length≤n:=by
 have h1:=zKn w
 refine ⟨⟨by omega,fun s hs=>?_⟩,by unfold okT;omega,by omega⟩
 have h2:s.length+1≤wdB w:=zCc (g:=fun s:Bt=>s.length+1) hs
 show s.length≤1000000000000
 omega
end Go.Ab
