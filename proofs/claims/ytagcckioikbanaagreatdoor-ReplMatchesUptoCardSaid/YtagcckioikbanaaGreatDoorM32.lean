/- Part 32 of the proof. -/
import Derived.Test.YtagcckioikbanaaGreatDoorM31
set_option linter.unusedVariables false
set_option linter.unusedSimpArgs false
namespace Go.Ab
open Go
set_option maxRecDepth 100000
set_option maxHeartbeats 4000000
theorem z4S (w:Wd):(z0X w).cells=[z0X w]:=by unfold z0X;split<;>rfl
theorem zFN (l:List (List UInt8)):z0j (l.map AV.str)=l.map AV.str:=by
 induction l with
 | nil=>rfl
 | cons a l ih=>show [AV.str a]++z0j (l.map AV.str)=_;rw [ih];rfl
theorem z5G (w:Wd) (H:z0B):z1m 1 H (z0X w)=some (w.l.length,w.l.map .str):=by
 obtain ⟨nl,l⟩:=w
 unfold z0X
 split
 ·rename_i h
  simp only [lAQ,lC2] at h
  obtain ⟨_,rfl⟩:=h;rfl
 ·simp only [z1m,if_true,lAE,zFN]
theorem z6a (l:List (List UInt8)):(l.map AV.str).all AV.scalar=true:=by
 rw [lAX];intro x hx;obtain ⟨s,_,rfl⟩:=lA4.1 hx;rfl
theorem zLg (w:Wd):z0N (z0X w):=by
 unfold z0X;split
 ·exact z0N.nilslice
 ·exact z0N.list _ fun x hx=>by obtain ⟨s,_,rfl⟩:=lA4.1 hx;exact z0N.str s
section steps
variable {P:Program} {H G:z0B} {al:AL} {K:KL} {Qp:AL→AV→z0B→Prop} {os:List IOper} {d:Nat} {x y:Arg}
end steps
theorem zZZ (H:z0B):z0D PP 200 [.nilslice,.int .i64 0] H (z1A H .nilslice):=by
 refine z0D.gives (zRm.c2 z0R mixed rfl ?_)
 refine z0E ?_
 refine z8X (v:=.int .i64 0) rfl ?_
 refine z7c .nilslice rfl ?_
 refine z2S (v:=.int .i64 0) rfl ?_
 refine z5j rfl rfl (by omega) (by omega) ?_
 refine z5j rfl rfl (by omega) (by omega) ?_
 refine z0E ?_
 exact fr (hp:=z0N.nilslice)
theorem c121 {n:Nat} (h0:0<n) (hn:n≤67108864) (H:z0B):z0D PP 200 [.nilslice,.int .i64 n] H (fun r H'=>∃ G k cs,r=.ret (.sl (H.length+k) 0 0 1)∧H'=H++G∧G[k]? =some (.cells cs)):=by
 have hz:decide ((n:Int)<0)=false:=by simp
 have hp:decide ((n:Int)-(0-0)>0)=true:=by simp;omega
 refine zRm.c2 z0R mixed rfl ?_
 refine z0E ?_
 refine z8X (v:=.int .i64 0) rfl ?_
 refine z7c .nilslice rfl ?_
 refine z2S (v:=.int .i64 0) rfl ?_
 refine z5j rfl rfl (by omega) (by omega) ?_
 refine z5j rfl rfl (by omega) (by omega) ?_
 refine z0E ?_
 refine z8X (v:=.int .i64 0) rfl ?_
 refine z2S (v:=.nilslice) rfl ?_
 refine z7c (.int .i64 (n:Int)) (by show AV.int .i64 ((n:Int)-(0-0))=_;congr 1) ?_
 refine z8X (v:=.sl (H++[]).length 0 n 1) (H':=H++([]++[.cells (z1J n [.str []])])) ?_ ?_
 ·show zKg (.appendZ 1 16 [.str []]) [.nilslice,.int .i64 (n:Int)] (H++[]) (H++[]).length=_
  simp only [zKg]
  rw [if_pos ⟨by omega,by omega,by omega⟩,zAT]
  simp
 refine z7c .nilslice rfl ?_
 refine z2S (v:=.int .i64 0) rfl ?_
 refine z2S (v:=.sl (H++[]).length 0 0 1) ?_ ?_
 ·show z8G 1 false true (.sl (H++[]).length 0 n 1) [.int .i64 0]=_
  simp only [z8G,if_true,z2f]
  rw [if_pos ⟨by omega,by omega⟩]
  rfl
 refine z0E ?_
 exact z0Y rfl ⟨_,0,_,by simp;rfl,rfl,rfl⟩
theorem zMp {H G:z0B} {l:List (List UInt8)}:zBS H (.list 1 (l.map .str)) (.ret (.sl (H.length+G.length) 0 l.length 1)) (H++(G++[.cells (l.map .str)])) :=
 ⟨_,G++[.dead],rfl,.step (H.length+G.length) (l.map .str) (by rw [z1R,lAJ (lAL _),lBJ];rfl) (z9T _ l)
  (by rw [zCn,lBC _ _ (lAL _),lBJ];exact .done _ _),z0N.list _ fun x hx=>by obtain ⟨s,_,rfl⟩:=lA4.1 hx;exact z0N.str s⟩
theorem c61 (a b:Wd) (hn:a.l.length+b.l.length≤67108864) (H:z0B):z0D PP 159 [.list 1 [z0X a,z0X b]] H (z1A H (z0X ⟨true,a.l++b.l⟩)):=by
 have hs:Sl 1 (.list 1 [z0X a,z0X b]) [z0X a,z0X b]:=.list _
 have sa:=z7S a
 have sb:=z7S b
 have la:(a.l.map AV.str).length=a.l.length:=lAE _
 have lb:(b.l.map AV.str).length=b.l.length:=lAE _
 have g0:([z0X a,z0X b]:List AV)[0]? =some (z0X a):=rfl
 have g1:([z0X a,z0X b]:List AV)[1]? =some (z0X b):=rfl
 refine z0D.gives (zUL.c1 z0R mixed rfl ?_)
 refine z0E ?_
 have z1:decide ((0:Int)+((a.l.map AV.str).length:Int)<0)=false:=by simp
 have z2:decide ((0:Int)+((a.l.map AV.str).length:Int)+((b.l.map AV.str).length:Int)<0)=false:=by simp;omega
 refine z6T (fun al H'=>al=[(0,.list 1 [z0X a,z0X b]),(3,.int .i64 0),(9,.list 1 [z0X a,z0X b]),(10,.int .i64 (2:Nat)),(11,.int .i64 (0:Nat))]∧H'=H++[])
  (fun al H'=>al=[(0,.list 1 [z0X a,z0X b]),(3,.int .i64 (0+((a.l.map AV.str).length:Int))),(9,.list 1 [z0X a,z0X b]),(10,.int .i64 (2:Nat)),(11,.int .i64 (1:Nat))]∧H'=H++[])
  (fun al H'=>al=[(0,.list 1 [z0X a,z0X b]),(3,.int .i64 (0+((a.l.map AV.str).length:Int)+((b.l.map AV.str).length:Int))),(9,.list 1 [z0X a,z0X b]),(10,.int .i64 (2:Nat)),(11,.int .i64 (2:Nat))]∧H'=H++[])
  ⟨rfl,rfl⟩ ?_ ?_ ?_
 ·rintro _ _ ⟨rfl,rfl⟩
  refine z0E ?_
  refine z2J (v:=z0X a) (cs:=(z0X a).cells) rfl (by rw [z4S];rfl) ?_
  refine z0E ?_
  refine zCj rfl rfl (by omega) (by omega) ?_
  refine z0E ?_
  exact ⟨rfl,rfl⟩
 ·rintro _ _ ⟨rfl,rfl⟩
  refine z0E ?_
  refine z2J (v:=z0X b) (cs:=(z0X b).cells) rfl (by rw [z4S];rfl) ?_
  refine z0E ?_
  refine zCj rfl rfl (by omega) (by omega) ?_
  refine z0E ?_
  exact ⟨rfl,rfl⟩
 rintro _ _ ⟨rfl,rfl⟩
 refine z0E ?_
 by_cases h0:a.l.length+b.l.length=0
 ·have ea:a.l=[]:=List.length_eq_zero_iff.1 (by omega)
  have eb:b.l=[]:=List.length_eq_zero_iff.1 (by omega)
  have e0:(0:Int)+((a.l.map AV.str).length:Int)+((b.l.map AV.str).length:Int)=0:=by omega
  have er:z0X ⟨true,a.l++b.l⟩=.nilslice:=by rw [ea,eb];rfl
  have qa:∀ H,z1m 1 H (z0X a)=some (0,[]):=fun H=>by rw [z5G,ea];rfl
  have qb:∀ H,z1m 1 H (z0X b)=some (0,[]):=fun H=>by rw [z5G,eb];rfl
  rw [e0,er]
  refine z0H rfl (zZZ _) ?_
  refine z0E ?_
  refine z6T (fun al H'=>al=[(6,.nilslice),(25,.list 1 [z0X a,z0X b]),(26,.int .i64 (2:Nat)),(27,.int .i64 (0:Nat))]∧H'=H++[])
   (fun al H'=>al=[(6,.nilslice),(25,.list 1 [z0X a,z0X b]),(26,.int .i64 (2:Nat)),(27,.int .i64 (1:Nat))]∧H'=H++[])
   (fun al H'=>al=[(6,.nilslice),(25,.list 1 [z0X a,z0X b]),(26,.int .i64 (2:Nat)),(27,.int .i64 (2:Nat))]∧H'=H++[])
   ⟨rfl,rfl⟩ ?_ ?_ ?_
  ·rintro _ _ ⟨rfl,rfl⟩
   refine z0E ?_
   refine z2J (v:=z0X a) (cs:=(z0X a).cells) rfl (by rw [z4S];rfl) ?_
   refine z0E ?_
   refine z9S (ys:=[]) rfl (qa _) rfl ?_
   refine z0E ?_
   exact ⟨rfl,rfl⟩
  ·rintro _ _ ⟨rfl,rfl⟩
   refine z0E ?_
   refine z2J (v:=z0X b) (cs:=(z0X b).cells) rfl (by rw [z4S];rfl) ?_
   refine z0E ?_
   refine z9S (ys:=[]) rfl (qb _) rfl ?_
   refine z0E ?_
   exact ⟨rfl,rfl⟩
  rintro _ _ ⟨rfl,rfl⟩
  refine z0E ?_
  exact fr (hp:=z0N.nilslice)
 ·have e0:(0:Int)+((a.l.map AV.str).length:Int)+((b.l.map AV.str).length:Int)=((a.l.length+b.l.length:Nat):Int):=by omega
  have er:z0X ⟨true,a.l++b.l⟩=.list 1 ((a.l++b.l).map .str):=by
   unfold z0X
   rw [if_neg]
   intro h
   simp only [lAQ,lC2,List.append_eq_nil_iff] at h
   rw [h.2.1,h.2.2] at h0;simp at h0
  rw [e0,er]
  refine z0L rfl (c121 (by omega) hn _) ?_ ?_
  case refine_2=>rintro v H' ⟨G,k,cs,h,_⟩;cases h
  rintro v H' ⟨G,k,cs,h,rfl,hk⟩
  injection h with h;subst h
  rw [lAK]
  refine z0E ?_
  refine z6T (fun al H'=>al=[(6,.sl (H.length+k) 0 0 1),(25,.list 1 [z0X a,z0X b]),(26,.int .i64 (2:Nat)),(27,.int .i64 (0:Nat))]∧H'=H++G)
   (fun al H'=>al=[(6,.sl (H.length+(G.set k .dead).length) 0 (0+a.l.length) 1),(25,.list 1 [z0X a,z0X b]),(26,.int .i64 (2:Nat)),(27,.int .i64 (1:Nat))]∧H'=H++(G.set k .dead++[.cells (a.l.map .str)]))
   (fun al H'=>al=[(6,.sl (H.length+((G.set k .dead++[.dead]:z0B)).length) 0 (a.l++b.l).length 1),(25,.list 1 [z0X a,z0X b]),(26,.int .i64 (2:Nat)),(27,.int .i64 (2:Nat))]∧H'=H++((G.set k .dead++[.dead])++[.cells ((a.l++b.l).map .str)]))
   ⟨rfl,rfl⟩ ?_ ?_ ?_
  ·rintro _ _ ⟨rfl,rfl⟩
   refine z0E ?_
   refine z2J (v:=z0X a) (cs:=(z0X a).cells) rfl (by rw [z4S];rfl) ?_
   refine z0E ?_
   refine zQQ (i:=k) (off:=0) (k:=0) (n:=(G.set k .dead).length) rfl hk (by omega) (z5G a _) (z6a _) (by omega) (by simp) rfl ?_
   refine z0E ?_
   exact ⟨rfl,by simp⟩
  ·rintro _ _ ⟨rfl,rfl⟩
   refine z0E ?_
   refine z2J (v:=z0X b) (cs:=(z0X b).cells) rfl (by rw [z4S];rfl) ?_
   refine z0E ?_
   refine zQQ (i:=(G.set k .dead).length) (off:=0) (k:=0+a.l.length) (n:=((G.set k .dead++[.dead]:z0B)).length) rfl (by rw [lAJ (lAL _),lBJ];rfl) (by simp) (z5G b _) (z6a _) (by omega) (by simp) rfl ?_
   refine z0E ?_
   refine ⟨by simp;rfl,?_⟩
   rw [lBC _ _ (lAL _),lBJ]
   simp
   exact lAS (by simp)
  rintro _ _ ⟨rfl,rfl⟩
  refine z0E ?_
  exact z0Y rfl zMp
set_option maxHeartbeats 8000000
theorem Upd.base {H G H':z0B} {M:Nat} {ks:List (List UInt8)} (h:Upd (H++G) M ks H') (hM:M<H.length):Upd H M ks H':=by
 obtain ⟨_,G',rfl⟩:=h
 exact ⟨hM,G++G',by rw [lD1 _ _ hM,lA2]⟩
theorem zXv (id:Nat) (a b:Wd):SealR id [z0X a,z0X b] (.sl id 0 2 1) (.list 1 [z0X a,z0X b]):=by
 refine .sl 0 2 1 [z0X a,z0X b] rfl (fun x hx=>?_) ?_ (by simp)
 ·rcases lAT.1 hx with rfl | hx
  ·rw [z4S];rfl
  ·rw [lA1.1 hx,z4S];rfl
 ·show (z0X a).cells++((z0X b).cells++[])=_
  rw [z4S,z4S];rfl
def z9W (l:List Pr):List (List UInt8):=l.flatMap fun p=>p.a.l++p.b.l
def zAY (l:List Pl):List (List UInt8):=l.flatMap fun p=>z1V p.1++z1V p.2
def z7T (r:Ru):List (List UInt8):=z9W r.pairs++zAY r.places
theorem z2m {α:Type} {l:List α} {i:Nat} {c:α} (h:l[i]? =some c):l.take (i+1)=l.take i++[c]:=by
 rw [lBA,h];rfl
structure okR2 (r:Ru):Prop where
 ok:okR r
 ps:∀ p∈r.pairs,p.a.l.length+p.b.l.length≤67108864
theorem c26 (r:Ru) (hr:okR2 r) {H:z0B} {M:Nat} {ks:List (List UInt8)} (hM:H[M]? =some (MB ks)):z0D PP 90 [z6e r,.map M] H (zXh H M (z0p ks (z7T r))):=by
 obtain ⟨kind,pn,pairs,ln,places,below⟩:=r
 obtain ⟨⟨hnp,hnl,hps,hls⟩,hpl⟩:=hr
 simp only at hnp hnl hps hls hpl
 have hsp:=zEB pn pairs
 have hsl:=zGB ln places
 have hlp:(pairs.map z2W).length=pairs.length:=lAE _
 have hll:(places.map z0x).length=places.length:=lAE _
 have hMl:=(lAA.1 hM).1
 unfold z6e
 refine is90.c2 z0R mixed rfl ?_
 refine z0E ?_
 refine z6h (vs:=[.ptr (H.length+1) 0,.ptr (H.length+2) 0]) rfl ?_
 refine z0E ?_
 have fin:∀ al' H',Upd H M (z0p ks (z7T ⟨kind,pn,pairs,ln,places,below⟩)) H'→z3m zZS.rs (zXh H M (z0p ks (z7T ⟨kind,pn,pairs,ln,places,below⟩))) .normal al' H':=fun al' H' h=>fp_n rfl ⟨rfl,h⟩
 have hocc:z0p ks (z7T ⟨kind,pn,pairs,ln,places,below⟩)=z0p (z0p ks (z9W pairs)) (zAY places):=by simp only [z7T,z1G]
 rw [hocc] at fin ⊢
 have h1:(H++[.cells [.int .i64 kind,z0T pn pairs,z0U ln places,.bool below],.cells [.map M],.cells [.clo (.func 158) [] [.ptr (H.length+1) 0,.ptr (H.length+2) 0]]])[H.length+1]? =some (.cells [.map M]):=z1R
 have h2:(H++[.cells [.int .i64 kind,z0T pn pairs,z0U ln places,.bool below],.cells [.map M],.cells [.clo (.func 158) [] [.ptr (H.length+1) 0,.ptr (H.length+2) 0]]])[H.length+2]? =some (.cells [.clo (.func 158) [] [.ptr (H.length+1) 0,.ptr (H.length+2) 0]]):=z1R
 have hM0:(H++[.cells [.int .i64 kind,z0T pn pairs,z0U ln places,.bool below],.cells [.map M],.cells [.clo (.func 158) [] [.ptr (H.length+1) 0,.ptr (H.length+2) 0]]])[M]? =some (MB ks):=z0G hM
 have hbase:∀ {ks' H'},Upd (H++[.cells [.int .i64 kind,z0T pn pairs,z0U ln places,.bool below],.cells [.map M],.cells [.clo (.func 158) [] [.ptr (H.length+1) 0,.ptr (H.length+2) 0]]]) M ks' H'→Upd H M ks' H':=fun h=>h.base hMl
 have hU0:=Upd.refl hM0
 refine z0F pairs.length (fun i al H'=>al=[(2,.ptr (H.length+0) 0),(3,.ptr (H.length+1) 0),(4,.ptr (H.length+2) 0),(13,z0T pn pairs),(14,.int .i64 (pairs.map z2W).length),(15,.int .i64 i)] ∧
  Upd (H++[.cells [.int .i64 kind,z0T pn pairs,z0U ln places,.bool below],.cells [.map M],.cells [.clo (.func 158) [] [.ptr (H.length+1) 0,.ptr (H.length+2) 0]]]) M (z0p ks (z9W (pairs.take i))) H') ⟨rfl,hU0⟩ ?_
 have h0:(H++[.cells [.int .i64 kind,z0T pn pairs,z0U ln places,.bool below],.cells [.map M],.cells [.clo (.func 158) [] [.ptr (H.length+1) 0,.ptr (H.length+2) 0]]])[H.length+0]? =some (.cells [.int .i64 kind,z0T pn pairs,z0U ln places,.bool below]):=z1R
 have hn0:=zEr h0 hM0 (by unfold MB;simp)
 have hn1:=zEr h1 hM0 (by unfold MB;simp)
 have hn2:=zEr h2 hM0 (by unfold MB;simp)
 generalize (H++[.cells [.int .i64 kind,z0T pn pairs,z0U ln places,.bool below],.cells [.map M],.cells [.clo (.func 158) [] [.ptr (H.length+1) 0,.ptr (H.length+2) 0]]]:z0B)=H0 at *
 clear hM hMl hU0
 rintro i _ H1 hi ⟨rfl,hU⟩
 refine z6g ?_
 refine z0E ?_
 refine z0Q _ rfl ?_ ?_<;>intro hc
 ·simp only [lAD] at hc
  obtain ⟨c,hc⟩:=z0M (l:=pairs) (i:=i) (by omega)
  have hu:(pairs.map z2W)[i]? =some (.agg [z0X c.a,z0X c.b]):=z0q (f:=z2W) hc
  have hok:=hps c (lAF hc)
  have ht:z0p ks (z9W (pairs.take (i+1)))=z0p (z0p ks (z9W (pairs.take i))) (c.a.l++c.b.l):=by
   rw [z2m hc,z9W,lBZ,z1G]
   simp [z9W]
  have k61:=fun H=>c61 c.a c.b (hpl c (lAF hc)) H
  rw [ht]
  generalize z0p ks (z9W (pairs.take i))=ks1 at *
  refine z0E ?_
  refine z1k (n:=0) (ws:=[z0X c.a,z0X c.b]) rfl rfl rfl rfl rfl zNN rfl ?_
  refine z0E ?_
  refine z7Y (out:=[z0X c.a,z0X c.b]) zMd rfl rfl ?_
  refine zCf (n:=1) (G':=[.cells [z0X c.a,z0X c.b],.dead]) (cs:=[z0X c.a,z0X c.b]) (args:=[.sl (H1.length+1) 0 2 1]) (args':=[.list 1 [z0X c.a,z0X c.b]]) ?_ ?_ ?_ (zRK (zXv (H1.length+1) c.a c.b)) ?_ (k61 _) ?_
  ·rfl
  ·rfl
  ·rfl
  ·rfl
  have sv:=z7S ⟨true,c.a.l++c.b.l⟩
  have hlv:((c.a.l++c.b.l).map AV.str).length=(c.a.l++c.b.l).length:=lAE _
  have hlen:(c.a.l++c.b.l).length≤67108864:=by rw [lAH];exact hpl c (lAF hc)
  simp only at sv
  generalize z0X ⟨true,c.a.l++c.b.l⟩=v at *
  generalize c.a.l++c.b.l=w at *
  refine z0E ?_
  refine z0F w.length (fun k al H'=>al=[(2,.ptr (H.length+0) 0),(3,.ptr (H.length+1) 0),(4,.ptr (H.length+2) 0),(13,z0T pn pairs),(14,.int .i64 (pairs.map z2W).length),(15,.int .i64 i),(24,v),(25,.int .i64 (w.map AV.str).length),(26,.int .i64 k)] ∧
   Upd H0 M (z0p ks1 (w.take k)) H') ⟨rfl,hU.app _⟩ ?_
  clear hU H1
  rintro k _ H1 hk ⟨rfl,hU⟩
  refine z0E ?_
  refine z0Q _ rfl ?_ ?_<;>intro hck
  ·simp only [lAD] at hck
   obtain ⟨s,hs⟩:=z0M (l:=w) (i:=k) (by omega)
   have hsu:=z0q (f:=AV.str) hs
   have hA:=hU.old hn1 h1
   refine z0E ?_
   refine zLB rfl rfl hU.get ?_
   refine z0E ?_
   refine ⟨by omega,rfl,?_⟩
   rw [z2m hs,z1G]
   exact hU.set
  ·simp only [lAC] at hck
   have:k=w.length:=by omega
   subst this
   rw [lAW] at hU
   refine z0E ?_
   exact ⟨by omega,rfl,hU⟩
 simp only [lAC] at hc
 have:i=pairs.length:=by omega
 subst this
 rw [lAW] at hU
 clear hc hi
 generalize z0p ks (z9W pairs)=ks1 at *
 have hB:=hU.old hn0 h0
 refine z0E ?_
 refine z0F places.length (fun i al H'=>al=[(4,.ptr (H.length+2) 0),(35,z0U ln places),(36,.int .i64 (places.map z0x).length),(37,.int .i64 i)]∧Upd H0 M (z0p ks1 (zAY (places.take i))) H') ⟨rfl,hU.app _⟩ ?_
 clear hU hB H1
 rintro i _ H1 hi ⟨rfl,hU⟩
 refine z6g ?_
 refine z0E ?_
 refine z0Q _ rfl ?_ ?_<;>intro hc
 ·simp only [lAD] at hc
  obtain ⟨c,hc⟩:=z0M (l:=places) (i:=i) (by omega)
  have ht:z0p ks1 (zAY (places.take (i+1)))=z0p (z0p (z0p ks1 (zAY (places.take i))) (z1V c.1)) (z1V c.2):=by
   rw [z2m hc,zAY,lBZ,z1G]
   simp only [lBU,lDN,lAK,z1G]
   rfl
  have hok:=hls _ (lAF hc)
  have k1:=fun (X:z0B) (ks:List (List UInt8)) ha hb hM=>c60 c.1 hok.1 (H:=X) (a:=H.length+1) (b:=H.length+2) (M:=M) (ks:=ks) ha hb hM
  have k2:=fun (X:z0B) (ks:List (List UInt8)) ha hb hM=>c60 c.2 hok.2 (H:=X) (a:=H.length+1) (b:=H.length+2) (M:=M) (ks:=ks) ha hb hM
  rw [ht]
  generalize z1V c.1=y1 at *
  generalize z1V c.2=y2 at *
  generalize z0p ks1 (zAY (places.take i))=ks2 at *
  obtain ⟨⟨o1,s1,n1,l1⟩,⟨o2,s2,n2,l2⟩⟩:=c
  have hu:(places.map z0x)[i]? =some (.agg [.int .i64 o1,.str s1,lst n1 l1,.int .i64 o2,.str s2,lst n2 l2]):=z0q (f:=z0x) hc
  simp only [z0a] at k1 k2
  have hA:=hU.old hn1 h1
  have hC:=hU.old hn2 h2
  refine z0E ?_
  refine z1k (n:=0) (ws:=[.int .i64 o1,.str s1,lst n1 l1,.int .i64 o2,.str s2,lst n2 l2]) rfl rfl rfl rfl rfl zJK rfl ?_
  refine z0E ?_
  refine z2n rfl zMP.hasBody (k1 _ ks2 (z0G hA) (z0G hC) (z0G hU.get)) ?_ ?_
  case refine_2=>rintro v H2 ⟨h,_⟩;cases h
  rintro v H2 ⟨_,hU2⟩
  have hU3:=(hU.app _).trans hU2
  have hA3:=hU3.old hn1 h1
  have hC3:=hU3.old hn2 h2
  have hX:H2[H1.length+0]? =some (.cells [.int .i64 o1,.str s1,lst n1 l1,.int .i64 o2,.str s2,lst n2 l2]):=hU2.old (by have:=(lAA.1 hU.get).1;omega) z1R
  refine z0E ?_
  refine z2n rfl zMP.hasBody (k2 _ _ hA3 hC3 hU3.get) ?_ ?_
  case refine_2=>rintro v H2 ⟨h,_⟩;cases h
  rintro v H3 ⟨_,hU4⟩
  refine z0E ?_
  exact ⟨by omega,rfl,hU3.trans hU4⟩
 simp only [lAC] at hc
 have:i=places.length:=by omega
 subst this
 rw [lAW] at hU
 refine z0E ?_
 exact fin _ _ (hbase (hU.app _))
def zAh (r:Ru):Bool:=decide (r.kind<0)||decide (r.kind>3)||((r.pairs.length:Int)==0)||(r.below&&(r.kind != 2)&&(r.kind != 3))
def z9h (r:Ru):Int :=
 if decide ((r.pairs.length:Int)>24)||decide ((r.places.length:Int)>24) then 3 else if r.pairs.any z5t then 3 else
 if zCy r.pairs != 0 then zCy r.pairs else if zDg z4X r.places != 0 then zDg z4X r.places else if zAh r then 1 else if r.places.any z7D then 1 else if z6c r.pairs then 1 else 0
theorem c16 (r:Ru) (hr:okR r) (H:z0B):z0D PP 59 [z6e r] H (z1A H (.int .i64 (z9h r))):=by
 obtain ⟨kind,pn,pairs,ln,places,below⟩:=r
 obtain ⟨hnp,hnl,hps,hls⟩:=hr
 simp only at hnp hnl hps hls
 have hsp:=zEB pn pairs
 have hsl:=zGB ln places
 have hlp:(pairs.map z2W).length=pairs.length:=lAE _
 have hll:(places.map z0x).length=places.length:=lAE _
 have e1:∀ k:Int,decide (((pairs.map z2W).length:Int)>k)=decide ((pairs.length:Int)>k):=fun k=>by rw [hlp]
 have e2:∀ k:Int,decide (((places.map z0x).length:Int)>k)=decide ((places.length:Int)>k):=fun k=>by rw [hll]
 have e3:(((pairs.map z2W).length:Int)==0)=((pairs.length:Int)==0):=by rw [hlp]
 have hv:z9h ⟨kind,pn,pairs,ln,places,below⟩=if decide ((pairs.length:Int)>24)||decide ((places.length:Int)>24) then 3 else if pairs.any z5t then 3 else
   if zCy pairs != 0 then zCy pairs else if zDg z4X places != 0 then zDg z4X places else if zAh ⟨kind,pn,pairs,ln,places,below⟩ then 1 else if places.any z7D then 1 else if z6c pairs then 1 else 0:=rfl
 refine z0D.gives (is59.c1 z0R mixed rfl ?_)
 unfold z6e
 rw [hv]
 refine z0E ?_
 rw [e1]
 refine zGy [(1,.ptr (H.length+0) 0),(22,.bool (decide ((pairs.length:Int)>24)||decide ((places.length:Int)>24)))] (H++[.cells [.int .i64 kind,z0T pn pairs,z0U ln places,.bool below]]) ?_ ?_
 ·cases h1:decide ((pairs.length:Int)>24)
  ·refine z0E ?_
   rw [e2]
   refine z0E ?_
   exact z4V rfl rfl
  ·refine z0E ?_
   exact z4V rfl rfl
 refine zHb ?_
 refine z0Q _ rfl ?_ ?_<;>intro h1
 ·rw [h1]
  refine z0E ?_
  exact fr
 rw [h1]
 refine z0E ?_
 refine z0F pairs.length (fun i al H'=>al=[(1,.ptr (H.length+0) 0),(3,.int .i64 i)]∧Ext H H' ∧
  H'[H.length+0]? =some (.cells [.int .i64 kind,z0T pn pairs,z0U ln places,.bool below])∧(pairs.take i).any z5t=false) ⟨rfl,⟨_,rfl⟩,z1R,by simp⟩ ?_
 rintro i _ H1 hi ⟨rfl,hx,hb,ha⟩
 refine z0E ?_
 refine z0Q _ rfl ?_ ?_<;>intro hc
 ·simp only [lAD] at hc
  obtain ⟨c,hc⟩:=z0M (l:=pairs) (i:=i) (by omega)
  have hu:(pairs.map z2W)[i]? =some (.agg [z0X c.a,z0X c.b]):=z0q (f:=z2W) hc
  have ht:=z0r (p:=z5t) hc
  have hany:=z2R (p:=z5t) hc
  have s1:=z7S c.a
  have s2:=z7S c.b
  have l1:∀ k:Int,decide (((c.a.l.map AV.str).length:Int)>k)=decide ((c.a.l.length:Int)>k):=fun k=>by rw [lAE]
  have l2:∀ k:Int,decide (((c.b.l.map AV.str).length:Int)>k)=decide ((c.b.l.length:Int)>k):=fun k=>by rw [lAE]
  refine z0E ?_
  rw [l1]
  cases h2:decide ((c.a.l.length:Int)>6)
  ·refine z0E ?_
   rw [l2]
   cases h3:decide ((c.b.l.length:Int)>60)
   ·refine z0E ?_
    exact ⟨by omega,rfl,hx,hb,by rw [ht,ha];simp only [z5t,h2,h3];rfl⟩
   ·rw [hany (by simp only [z5t,h2,h3];rfl)]
    refine z0E ?_
    exact z0Y rfl (z0W hx (z0N.int _ _))
  ·rw [hany (by simp only [z5t,h2];rfl)]
   refine z0E ?_
   exact z0Y rfl (z0W hx (z0N.int _ _))
 simp only [lAC] at hc
 have:i=pairs.length:=by omega
 subst this
 rw [lAW] at ha
 rw [ha]
 clear hc hi ha
 refine z0E ?_
 refine z0F pairs.length (fun i al H'=>al=[(1,.ptr (H.length+0) 0),(4,.int .i64 i)]∧Ext H H' ∧
  H'[H.length+0]? =some (.cells [.int .i64 kind,z0T pn pairs,z0U ln places,.bool below])∧zCy pairs=zCy (pairs.drop i)) ⟨rfl,hx,hb,rfl⟩ ?_
 clear hx hb H1
 rintro i _ H1 hi ⟨rfl,hx,hb,ha⟩
 refine z0E ?_
 refine z0Q _ rfl ?_ ?_<;>intro hc
 ·simp only [lAD] at hc
  obtain ⟨c,hc⟩:=z0M (l:=pairs) (i:=i) (by omega)
  have hu:(pairs.map z2W)[i]? =some (.agg [z0X c.a,z0X c.b]):=z0q (f:=z2W) hc
  have hok:=hps c (lAF hc)
  rw [z2Q hc] at ha
  simp only [zCy] at ha
  have k1:=fun H=>c42 (z7S c.a) hok.1 H
  have k2:=fun H=>c42 (z7S c.b) hok.2 H
  generalize z1N c.a.l=v1 at *
  generalize z1N c.b.l=v2 at *
  refine z0E ?_
  refine z0H rfl (k1 _) ?_
  refine z0E ?_
  refine z0Q _ rfl ?_ ?_<;>intro h1
  ·rw [ha,if_pos h1,if_pos h1]
   refine z0E ?_
   exact z0Y rfl (z0W hx (z0N.int _ _))
  rw [if_neg (by simpa using h1)] at ha
  refine z0E ?_
  refine z0H rfl (k2 _) ?_
  refine z0E ?_
  refine z0Q _ rfl ?_ ?_<;>intro h2
  ·rw [ha,if_pos h2,if_pos h2]
   refine z0E ?_
   exact z0Y rfl (z0W hx (z0N.int _ _))
  rw [if_neg (by simpa using h2)] at ha
  refine z0E ?_
  exact ⟨by omega,rfl,hx,hb,ha⟩
 simp only [lAC] at hc
 have:i=pairs.length:=by omega
 subst this
 rw [lDQ] at ha
 rw [ha]
 clear hc hi ha
 refine z0E ?_
 refine z0F places.length (fun i al H'=>al=[(1,.ptr (H.length+0) 0),(7,.int .i64 i)]∧Ext H H' ∧
  H'[H.length+0]? =some (.cells [.int .i64 kind,z0T pn pairs,z0U ln places,.bool below])∧zDg z4X places=zDg z4X (places.drop i)) ⟨rfl,hx,hb,rfl⟩ ?_
 clear hx hb H1
 rintro i _ H1 hi ⟨rfl,hx,hb,ha⟩
 refine z0E ?_
 refine z0Q _ rfl ?_ ?_<;>intro hc
 ·simp only [lAD] at hc
  obtain ⟨c,hc⟩:=z0M (l:=places) (i:=i) (by omega)
  obtain ⟨⟨o1,s1,n1,l1⟩,⟨o2,s2,n2,l2⟩⟩:=c
  have hu:(places.map z0x)[i]? =some (.agg [.int .i64 o1,.str s1,lst n1 l1,.int .i64 o2,.str s2,lst n2 l2]):=z0q (f:=z0x) hc
  have hok:=hls _ (lAF hc)
  rw [z2Q hc] at ha
  simp only [zDg] at ha
  have k1:=fun H=>c43 (.mk o1 s1 n1 l1) hok.1 H
  have k2:=fun H=>c43 (.mk o2 s2 n2 l2) hok.2 H
  simp only [z0a] at k1 k2
  generalize z4X (.mk o1 s1 n1 l1)=v1 at *
  generalize z4X (.mk o2 s2 n2 l2)=v2 at *
  refine z0E ?_
  refine z0H rfl (k1 _) ?_
  refine z0E ?_
  refine z0Q _ rfl ?_ ?_<;>intro h1
  ·rw [ha,if_pos h1,if_pos h1]
   refine z0E ?_
   exact z0Y rfl (z0W hx (z0N.int _ _))
  rw [if_neg (by simpa using h1)] at ha
  refine z0E ?_
  refine z0H rfl (k2 _) ?_
  refine z0E ?_
  refine z0Q _ rfl ?_ ?_<;>intro h2
  ·rw [ha,if_pos h2,if_pos h2]
   refine z0E ?_
   exact z0Y rfl (z0W hx (z0N.int _ _))
  rw [if_neg (by simpa using h2)] at ha
  refine z0E ?_
  exact ⟨by omega,rfl,hx,hb,ha⟩
 simp only [lAC] at hc
 have:i=places.length:=by omega
 subst this
 rw [lDQ] at ha
 rw [ha]
 clear hc hi ha
 refine z0E ?_
 refine zFm [(1,.ptr (H.length+0) 0),(129,.bool (zAh ⟨kind,pn,pairs,ln,places,below⟩))] (fun h=>Ext H h∧h[H.length+0]? =some (.cells [.int .i64 kind,z0T pn pairs,z0U ln places,.bool below])) ?_ ?_
 ·have hf:∀ b,(decide (kind<0)||decide (kind>3)||((pairs.length:Int)==0)||(below&&(kind != 2)&&(kind != 3)))=b→zAh ⟨kind,pn,pairs,ln,places,below⟩=b:=fun b h=>h
  cases h2:decide (kind<0)
  ·refine z0E ?_
   cases h3:decide (kind>3)
   ·refine z0E ?_
    rw [e3]
    cases h4:((pairs.length:Int)==0)
    ·refine z0E ?_
     cases below
     ·rw [hf false (by rw [h2,h3,h4];rfl)]
      refine z0E ?_
      exact z2D rfl ⟨hx,hb⟩
     ·refine z0E ?_
      cases h5:(kind != 2)
      ·rw [hf false (by rw [h2,h3,h4,h5];rfl)]
       refine z0E ?_
       exact z2D rfl ⟨hx,hb⟩
      ·rw [hf (kind != 3) (by rw [h2,h3,h4,h5];simp)]
       refine z0E ?_
       exact z2D rfl ⟨hx,hb⟩
    ·rw [hf true (by rw [h4];simp)]
     refine z0E ?_
     exact z2D rfl ⟨hx,hb⟩
   ·rw [hf true (by rw [h3];simp)]
    refine z0E ?_
    exact z2D rfl ⟨hx,hb⟩
  ·rw [hf true (by rw [h2];rfl)]
   refine z0E ?_
   exact z2D rfl ⟨hx,hb⟩
 clear hx hb H1
 rintro H1 ⟨hx,hb⟩
 refine zHb ?_
 refine z0Q _ rfl ?_ ?_<;>intro hfo
 ·rw [hfo]
  refine z0E ?_
  exact z0Y rfl (z0W hx (z0N.int _ _))
 rw [hfo]
 refine z0E ?_
 refine z0F places.length (fun i al H'=>al=[(1,.ptr (H.length+0) 0),(10,.int .i64 i)]∧Ext H H' ∧
  H'[H.length+0]? =some (.cells [.int .i64 kind,z0T pn pairs,z0U ln places,.bool below])∧(places.take i).any z7D=false) ⟨rfl,hx,hb,by simp⟩ ?_
 clear hx hb H1
 rintro i _ H1 hi ⟨rfl,hx,hb,ha⟩
 refine z0E ?_
 refine z0Q _ rfl ?_ ?_<;>intro hc
 ·simp only [lAD] at hc
  obtain ⟨c,hc⟩:=z0M (l:=places) (i:=i) (by omega)
  have ht:=z0r (p:=z7D) hc
  have hany:=z2R (p:=z7D) hc
  have hok:=hls _ (lAF hc)
  have k1:=fun H=>c44 c.1 hok.1 H
  have k2:=fun H=>c44 c.2 hok.2 H
  have ho:z7D c=(c.1.odd||c.2.odd):=rfl
  generalize z7D c=q at *
  generalize c.1.odd=q1 at *
  generalize c.2.odd=q2 at *
  obtain ⟨⟨o1,s1,n1,l1⟩,⟨o2,s2,n2,l2⟩⟩:=c
  have hu:(places.map z0x)[i]? =some (.agg [.int .i64 o1,.str s1,lst n1 l1,.int .i64 o2,.str s2,lst n2 l2]):=z0q (f:=z0x) hc
  simp only [z0a] at k1 k2
  refine z0E ?_
  refine z0H rfl (k1 _) ?_
  refine z0E ?_
  cases q1
  ·refine z0E ?_
   refine z0H rfl (k2 _) ?_
   refine z0E ?_
   cases q2
   ·refine z0E ?_
    exact ⟨by omega,rfl,hx,hb,by rw [ht,ha,ho];rfl⟩
   ·rw [hany ho]
    refine z0E ?_
    exact z0Y rfl (z0W hx (z0N.int _ _))
  ·rw [hany ho]
   refine z0E ?_
   exact z0Y rfl (z0W hx (z0N.int _ _))
 simp only [lAC] at hc
 have:i=places.length:=by omega
 subst this
 rw [lAW] at ha
 rw [ha]
 clear hc hi ha
 refine z0E ?_
 refine z0F pairs.length (fun i al H'=>al=[(1,.ptr (H.length+0) 0),(11,.int .i64 i)]∧Ext H H' ∧
  H'[H.length+0]? =some (.cells [.int .i64 kind,z0T pn pairs,z0U ln places,.bool below])∧∀ k,k<i→z4J pairs k=false) ⟨rfl,hx,hb,by omega⟩ ?_
 clear hx hb H1
 rintro i _ H1 hi ⟨rfl,hx,hb,ha⟩
 refine z0E ?_
 refine z0Q _ rfl ?_ ?_<;>intro hc
 ·simp only [lAD] at hc
  obtain ⟨c,hc⟩:=z0M (l:=pairs) (i:=i) (by omega)
  have hm:=lAF hc
  have hu:(pairs.map z2W)[i]? =some (.agg [z0X c.a,z0X c.b]):=z0q (f:=z2W) hc
  have hok:=hps c hm
  have ht:z4J pairs i=((c.a.l==[])||(pairs.take i).any (z6y c)):=by simp only [z4J,hc]
  have htw:z4J pairs i=true→z6c pairs=true:=fun h=>lA3.2 ⟨i,lAZ.2 (by omega),h⟩
  have e0:(((c.a.l.map AV.str).length:Int)==0)=(c.a.l==[]):=by
   cases c.a.l<;>simp
   omega
  have hsW:=z7S c.a
  refine z0E ?_
  rw [e0]
  refine z0Q _ rfl ?_ ?_<;>intro h1
  ·rw [htw (by rw [ht,h1];rfl)]
   refine z0E ?_
   exact z0Y rfl (z0W hx (z0N.int _ _))
  refine z0E ?_
  refine z0F i (fun k al H'=>al=[(1,.ptr (H.length+0) 0),(11,.int .i64 i),(12,.int .i64 k)]∧Ext H H' ∧
   H'[H.length+0]? =some (.cells [.int .i64 kind,z0T pn pairs,z0U ln places,.bool below])∧(pairs.take k).any (z6y c)=false) ⟨rfl,hx,hb,by simp⟩ ?_
  clear hx hb H1
  rintro k _ H1 hk ⟨rfl,hx,hb,hs⟩
  refine z0E ?_
  refine z0Q _ rfl ?_ ?_<;>intro hck
  ·simp only [lAD] at hck
   obtain ⟨q,hq⟩:=z0M (l:=pairs) (i:=k) (by omega)
   have hqu:(pairs.map z2W)[k]? =some (.agg [z0X q.a,z0X q.b]):=z0q (f:=z2W) hq
   have htk:=z0r (p:=z6y c) hq
   have hin:z6y c q=true→(pairs.take i).any (z6y c)=true:=by
    intro h
    refine lA3.2 ⟨q,?_,h⟩
    rw [List.mem_iff_getElem?]
    exact ⟨k,by rw [List.getElem?_take_of_lt (by omega)];exact hq⟩
   have k1:=fun H=>c17 (z7S c.a) (z7S q.a) hok.1.1 H
   have k2:=fun H=>c17 (z7S c.b) (z7S q.b) hok.2.1 H
   have hsd:z6y c q=((c.a.l==q.a.l)&&(c.b.l==q.b.l)):=rfl
   generalize (c.a.l==q.a.l)=b1 at *
   generalize (c.b.l==q.b.l)=b2 at *
   generalize z6y c q=b at *
   refine z0E ?_
   refine z0H rfl (k1 _) ?_
   refine z0E ?_
   cases b1
   ·refine z0E ?_
    exact ⟨by omega,rfl,hx,hb,by rw [htk,hs,hsd];rfl⟩
   ·refine z0E ?_
    refine z0H rfl (k2 _) ?_
    refine z0E ?_
    cases b2
    ·refine z0E ?_
     exact ⟨by omega,rfl,hx,hb,by rw [htk,hs,hsd];rfl⟩
    ·rw [htw (by rw [ht,hin hsd];simp)]
     refine z0E ?_
     exact z0Y rfl (z0W hx (z0N.int _ _))
  ·simp only [lAC] at hck
   have:k=i:=by omega
   subst this
   refine z0E ?_
   refine ⟨by omega,rfl,hx,hb,?_⟩
   intro j hj
   rcases lC1.1 hj with h | h
   ·exact ha j h
   ·subst h;rw [ht,h1,hs];rfl
 simp only [lAC] at hc
 have:z6c pairs=false:=by
  rw [z6c,lBV];intro k hk;rw [ha k (by have:=lAZ.1 hk;omega)];simp
 rw [this]
 refine z0E ?_
 exact z0Y rfl (z0W hx (z0N.int _ _))
end Go.Ab
