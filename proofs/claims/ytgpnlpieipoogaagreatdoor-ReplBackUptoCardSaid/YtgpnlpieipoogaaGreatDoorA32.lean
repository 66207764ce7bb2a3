/- Part 32 of the proof. -/
import Derived.Test.YtgpnlpieipoogaaGreatDoorRows
import Derived.Test.YtgpnlpieipoogaaGreatDoorA25
import Derived.Test.YtgpnlpieipoogaaGreatDoorA31
set_option linter.unusedVariables false
set_option linter.unusedSimpArgs false
namespace Go.Ab
open Go Go.ChangeShapes
open Go.Proofs.YtgpnlpieipoogaaGreatDoor.Rows (uptoBulk uptoBulkAll)
set_option maxRecDepth 100000
def sumG {α:Type} (g:α→Nat):List α→Nat
 | []=>0
 | x::xs=>g x+sumG g xs
theorem sumG_mem {α:Type} {g:α→Nat} {l:List α} {x:α} (h:x∈l):g x≤sumG g l:=by
 induction l with
 | nil=>cases h
 | cons y ys ih =>
  simp only [sumG]
  rcases List.mem_cons.1 h with rfl | h
  ·omega
  ·have:=ih h;omega
theorem length_sumG {α:Type} {g:α→Nat} (hg:∀ x,1≤g x):∀ l:List α,l.length≤sumG g l
 | []=>Nat.le_refl _
 | x::xs=>by have:=length_sumG hg xs;have:=hg x;simp only [sumG,List.length_cons];omega
section
variable {H:Type} {enc':TypeId × Value→H} {w:World} {base:Nat} {spare:Nat→Bool} {held:Bool}
theorem sumG_le {α:Type} {g:α→Nat}:∀ (l:List α) (ds:List (DataW H)),l.length=ds.length→(∀ (i:Nat) (a:α),l[i]? =some a→∃ d,ds[i]? =some d∧g a≤uptoBulk d)→sumG g l≤uptoBulkAll ds
 | [],[],_,_=>by simp [sumG]
 | [],_::_,h,_=>by simp at h
 | _::_,[],h,_=>by simp at h
 | x::xs,d::ds,h,hp=>by
  obtain ⟨d',h1,h2⟩:=hp 0 x rfl
  simp at h1;subst h1
  have:=sumG_le xs ds (by simpa using h) fun i a ha=>by simpa using hp (i+1) a (by simpa using ha)
  simp only [sumG,uptoBulkAll];omega
theorem bulk_elems {x:DataW H} (h:x=.nil∨∃ sp,x=.slice (elemsOf x) sp):uptoBulkAll (elemsOf x)+1≤uptoBulk x:=by
 rcases h with h | ⟨sp,h⟩
 ·rw [h];simp [elemsOf,uptoBulk,uptoBulkAll]
 ·generalize elemsOf x=es at *
  subst h
  simp only [uptoBulk];omega
theorem cells9:PP.cellsOf 9=1:=by kernel_rfl
theorem cells40:PP.cellsOf 40=1:=by kernel_rfl
theorem cells33:PP.cellsOf 33=1:=by kernel_rfl
theorem cells35:PP.cellsOf 35=3:=by kernel_rfl
theorem cells37:PP.cellsOf 37=6:=by kernel_rfl
theorem cells42:PP.cellsOf 42=2:=by kernel_rfl
theorem cells25:PP.cellsOf 25=4:=by kernel_rfl
theorem cells22:PP.cellsOf 22=1:=by kernel_rfl
theorem cells23:PP.cellsOf 23=1:=by kernel_rfl
theorem cells3:PP.cellsOf 3=1:=by kernel_rfl
theorem cells4:PP.cellsOf 4=1:=by kernel_rfl
def wdB (w:List Bt):Nat:=sumG (fun s=>s.length+1) w
theorem wdB_tot:∀ w:List Bt,wdB w=w.length+tot w
 | []=>rfl
 | s::w=>by
  have:=wdB_tot w
  unfold wdB at *
  simp only [sumG,this,tot,List.length_cons];omega
theorem open_word (hsp:∀ b,spare b=true) {fuel:Nat} {cs:List Value} {x:DataW H × List MemPlace} (h:DataW.trod enc' PP w base spare held fuel 40 cs=some x) :
  ∃ u:Wd,RelC w [encW u] cs∧wdB u.l+1≤uptoBulk x.1:=by
 obtain ⟨nl,l,h1,h2,h3,h4⟩:=open_list (f:=AV.str) (R:=fun s d=>d=.lit (.string s)) Go.Proofs.Tryz.underlying40 cells9 (by omega) (fun _=>rfl) hsp h
  fun n cs' y _ hy=>by
   obtain ⟨s,a,b⟩:=open_strR Go.Proofs.Tryz.underlying9 hy
   exact ⟨s,a,b⟩
 refine ⟨⟨nl,l⟩,?_,?_⟩
 ·have e:encW ⟨nl,l⟩=if nl&&(List.map AV.str l).isEmpty then AV.nilslice else .list 1 (l.map .str):=by unfold encW;simp
  rw [show encW ⟨nl,l⟩=if nl&&l.isEmpty then AV.nilslice else .list 1 (l.map .str) from rfl]
  exact h1
 ·have hs:wdB l≤_:=sumG_le (g:=fun s:Bt=>s.length+1) l _ h2 fun i a ha=>by
   obtain ⟨d,g1,rfl⟩:=h4 i a ha
   exact ⟨_,g1,by simp [uptoBulk]⟩
  have:=bulk_elems h3
  show wdB l+1≤_
  omega
theorem enc_len (e:Ex):(enc e).cells.length=3:=by obtain ⟨a,b,c,d⟩:=e;rw [z0U];rfl
theorem ws_sum:∀ l:List Ex,ws l=sumG Ex.w l
 | []=>rfl
 | x::xs=>by simp only [ws,sumG,ws_sum xs]
theorem open_ex (hsp:∀ b,spare b=true):∀ (fuel:Nat) {cs:List Value} {x:DataW H × List MemPlace},DataW.trod enc' PP w base spare held fuel 35 cs=some x →
  ∃ e:Ex,RelC w (enc e).cells cs∧e.w≤uptoBulk x.1:=by
 intro fuel
 induction fuel using Nat.strongRecOn with
 | ind fuel ih =>
  intro cs x h
  obtain ⟨xs,n,rfl,rfl,hl,hlen,hf⟩:=DataW.trod_struct Go.Proofs.Tryz.underlying35 h
  rw [cells35] at hl
  match xs,hlen,cs,hl with
  | [y0,y1,y2],_,[c0,c1,c2],_ =>
   have g0:DataW.trod enc' PP w base spare held n 3 (([c0,c1,c2].drop 0).take (PP.cellsOf 3))=some y0:=hf 0 _ rfl
   rw [cells3] at g0
   have g1:DataW.trod enc' PP w base spare held n 9 (([c0,c1,c2].drop 1).take (PP.cellsOf 9))=some y1:=hf 1 _ rfl
   rw [cells9] at g1
   have g2:DataW.trod enc' PP w base spare held n 33 (([c0,c1,c2].drop 2).take (PP.cellsOf 33))=some y2:=hf 2 _ rfl
   rw [cells33] at g2
   have g0:DataW.trod enc' PP w base spare held n 3 [c0]=some y0:=g0
   have g1:DataW.trod enc' PP w base spare held n 9 [c1]=some y1:=g1
   have g2:DataW.trod enc' PP w base spare held n 33 [c2]=some y2:=g2
   obtain ⟨op,r0,b0⟩:=open_intR Go.Proofs.Tryz.underlying3 g0
   obtain ⟨s,r1,b1⟩:=open_strR Go.Proofs.Tryz.underlying9 g1
   obtain ⟨nl,l,r2,h2,h3,h4⟩:=open_list (f:=enc) (R:=fun e d=>e.w≤uptoBulk d) Go.Proofs.Tryz.underlying33 cells35 (by omega) enc_len hsp g2
    fun m cs' y hm hy=>ih m (by omega) hy
   refine ⟨.mk op s nl l,?_,?_⟩
   ·rw [z0U]
    exact (r0.append r1).append r2
   ·have h5:=sumG_le (g:=Ex.w) l _ h2 h4
    have h6:=bulk_elems h3
    simp only [Ex.w,ws_sum]
    simp only [List.map_cons,List.map_nil,uptoBulk,uptoBulkAll,b0,b1]
    omega
theorem encPl_cells (p:Pl):(encPl p).cells=(enc p.1).cells++(enc p.2).cells:=by
 obtain ⟨⟨a,b,c,d⟩,⟨a',b',c',d'⟩⟩:=p
 simp only [z0U];rfl
def plB (p:Pl):Nat:=p.1.w+p.2.w+1
def prB (p:Pr):Nat:=wdB p.a.l+wdB p.b.l+1
theorem open_place (hsp:∀ b,spare b=true) {fuel:Nat} {cs:List Value} {x:DataW H × List MemPlace} (h:DataW.trod enc' PP w base spare held fuel 37 cs=some x) :
  ∃ p:Pl,RelC w (encPl p).cells cs∧plB p≤uptoBulk x.1:=by
 obtain ⟨xs,n,rfl,rfl,hl,hlen,hf⟩:=DataW.trod_struct Go.Proofs.Tryz.underlying37 h
 rw [cells37] at hl
 match xs,hlen,cs,hl with
 | [y0,y1],_,[c0,c1,c2,c3,c4,c5],_ =>
  have g0:DataW.trod enc' PP w base spare held n 35 (([c0,c1,c2,c3,c4,c5].drop 0).take (PP.cellsOf 35))=some y0:=hf 0 _ rfl
  rw [cells35] at g0
  have g1:DataW.trod enc' PP w base spare held n 35 (([c0,c1,c2,c3,c4,c5].drop 3).take (PP.cellsOf 35))=some y1:=hf 1 _ rfl
  rw [cells35] at g1
  have g0:DataW.trod enc' PP w base spare held n 35 [c0,c1,c2]=some y0:=g0
  have g1:DataW.trod enc' PP w base spare held n 35 [c3,c4,c5]=some y1:=g1
  obtain ⟨a,r0,b0⟩:=open_ex hsp _ g0
  obtain ⟨b,r1,b1⟩:=open_ex hsp _ g1
  refine ⟨(a,b),?_,?_⟩
  ·rw [encPl_cells];exact r0.append r1
  ·simp only [List.map_cons,List.map_nil,uptoBulk,uptoBulkAll,plB];omega
theorem open_pair (hsp:∀ b,spare b=true) {fuel:Nat} {cs:List Value} {x:DataW H × List MemPlace} (h:DataW.trod enc' PP w base spare held fuel 42 cs=some x) :
  ∃ p:Pr,RelC w (encP p).cells cs∧prB p≤uptoBulk x.1:=by
 obtain ⟨xs,n,rfl,rfl,hl,hlen,hf⟩:=DataW.trod_struct Go.Proofs.Tryz.underlying42 h
 rw [cells42] at hl
 match xs,hlen,cs,hl with
 | [y0,y1],_,[c0,c1],_ =>
  have g0:DataW.trod enc' PP w base spare held n 40 (([c0,c1].drop 0).take (PP.cellsOf 40))=some y0:=hf 0 _ rfl
  rw [cells40] at g0
  have g1:DataW.trod enc' PP w base spare held n 40 (([c0,c1].drop 1).take (PP.cellsOf 40))=some y1:=hf 1 _ rfl
  rw [cells40] at g1
  have g0:DataW.trod enc' PP w base spare held n 40 [c0]=some y0:=g0
  have g1:DataW.trod enc' PP w base spare held n 40 [c1]=some y1:=g1
  obtain ⟨a,r0,b0⟩:=open_word hsp g0
  obtain ⟨b,r1,b1⟩:=open_word hsp g1
  refine ⟨⟨a,b⟩,?_,?_⟩
  ·exact r0.append r1
  ·simp only [List.map_cons,List.map_nil,uptoBulk,uptoBulkAll,prB];omega
def ruB (r:Ru):Nat:=sumG prB r.pairs+sumG plB r.places
theorem open_rule (hsp:∀ b,spare b=true) {fuel:Nat} {cs:List Value} {x:DataW H × List MemPlace} (h:DataW.trod enc' PP w base spare held fuel 25 cs=some x) :
  ∃ r:Ru,RelC w (encR r).cells cs∧ruB r≤uptoBulk x.1:=by
 obtain ⟨xs,n,rfl,rfl,hl,hlen,hf⟩:=DataW.trod_struct Go.Proofs.Tryz.underlying25 h
 rw [cells25] at hl
 match xs,hlen,cs,hl with
 | [y0,y1,y2,y3],_,[c0,c1,c2,c3],_ =>
  have g0:DataW.trod enc' PP w base spare held n 3 (([c0,c1,c2,c3].drop 0).take (PP.cellsOf 3))=some y0:=hf 0 _ rfl
  rw [cells3] at g0
  have g1:DataW.trod enc' PP w base spare held n 22 (([c0,c1,c2,c3].drop 1).take (PP.cellsOf 22))=some y1:=hf 1 _ rfl
  rw [cells22] at g1
  have g2:DataW.trod enc' PP w base spare held n 23 (([c0,c1,c2,c3].drop 2).take (PP.cellsOf 23))=some y2:=hf 2 _ rfl
  rw [cells23] at g2
  have g3:DataW.trod enc' PP w base spare held n 4 (([c0,c1,c2,c3].drop 3).take (PP.cellsOf 4))=some y3:=hf 3 _ rfl
  rw [cells4] at g3
  have g0:DataW.trod enc' PP w base spare held n 3 [c0]=some y0:=g0
  have g1:DataW.trod enc' PP w base spare held n 22 [c1]=some y1:=g1
  have g2:DataW.trod enc' PP w base spare held n 23 [c2]=some y2:=g2
  have g3:DataW.trod enc' PP w base spare held n 4 [c3]=some y3:=g3
  obtain ⟨kind,r0,b0⟩:=open_intR Go.Proofs.Tryz.underlying3 g0
  obtain ⟨below,r3,b3⟩:=open_boolR Go.Proofs.Tryz.underlying4 g3
  obtain ⟨pn,ps,r1,p2,p3,p4⟩:=open_list (f:=encP) (R:=fun e d=>prB e≤uptoBulk d) Go.Proofs.Tryz.underlying22 cells42 (by omega) (fun _=>rfl) hsp g1
   fun m cs' y hm hy=>open_pair hsp hy
  obtain ⟨ln,ls,r2,l2,l3,l4⟩:=open_list (f:=encPl) (R:=fun e d=>plB e≤uptoBulk d) Go.Proofs.Tryz.underlying23 cells37 (by omega) (fun p=>by rw [encPl_cells,List.length_append,enc_len,enc_len]) hsp g2
   fun m cs' y hm hy=>open_place hsp hy
  refine ⟨⟨kind,pn,ps,ln,ls,below⟩,?_,?_⟩
  ·exact ((r0.append r1).append r2).append r3
  ·have h5:=sumG_le (g:=prB) ps _ p2 p4
   have h6:=bulk_elems p3
   have h7:=sumG_le (g:=plB) ls _ l2 l4
   have h8:=bulk_elems l3
   simp only [List.map_cons,List.map_nil,uptoBulk,uptoBulkAll,ruB]
   omega
end
theorem okW_of {w:List Bt} {n:Nat} (h:wdB w≤n) (hn:n≤1000000000000):okW w∧okT w∧w.length≤n:=by
 have h1:=wdB_tot w
 refine ⟨⟨by omega,fun s hs=>?_⟩,by unfold okT;omega,by omega⟩
 have h2:s.length+1≤wdB w:=sumG_mem (g:=fun s:Bt=>s.length+1) hs
 show s.length≤1000000000000
 omega
end Go.Ab
