/- Part 49 of the proof. -/
import Derived.Shelf.SlSortCmp.NoneTotal
import Derived.WalkKit
import Derived.Test.YtagcckioikbanaaGreatDoorM27
import Derived.Test.YtagcckioikbanaaGreatDoorM39
import Derived.Test.YtagcckioikbanaaGreatDoorM44
import Derived.Test.YtagcckioikbanaaGreatDoorM46
import Derived.Test.YtagcckioikbanaaGreatDoorM47
import Derived.Test.YtagcckioikbanaaGreatDoorM48
set_option linter.unusedVariables false
set_option linter.unusedSimpArgs false
namespace Go.Ab
open Go
set_option maxRecDepth 100000
set_option maxHeartbeats 4000000
def mtA (m:Mt):AV:=.agg [.int .i64 m.1,.int .i64 m.2.1,.int .i64 m.2.2]
end Go.Ab
namespace Go.Proofs
open Go.Shelf Go.RowKit Go.Lib Go.Sort
set_option maxHeartbeats 2000000 in
theorem Tryz.orM (x y z r:Int) (b:Nat) (W:World) (h0:W.cell? ⟨b,0,none⟩=some (.int .i64 x)) (h1:W.cell? ⟨b,1,none⟩=some (.int .i64 y)) (h2:W.cell? ⟨b,2,none⟩=some (.int .i64 z))
  (r1:(x != 0)=true→r=x) (r2:(x != 0)=false→(y != 0)=true→r=y) (r3:(x != 0)=false→(y != 0)=false→r=z) :
  Calls Tryz.prog 30 #[.slice (some ⟨b,0,none⟩) 3 3] W fun e w'=>e=.returned (.int .i64 r)∧w'=W:=by
 go_enter Tryz.func30,Tryz.ntmps30
 go_wp2
 refine wp_loop_rounds 4 ?_
 rw [rounds_succ]
 go_wp2
 ·rename_i hx
  rw [r1 hx]
  go_ret
  exact ⟨rfl,rfl⟩
 rename_i hx
 rw [rounds_succ]
 go_wp2
 ·rename_i hy
  rw [r2 hx hy]
  go_ret
  exact ⟨rfl,rfl⟩
 rename_i hy
 rw [rounds_succ]
 go_wp2
 ·rename_i hz
  rw [r3 hx hy]
  go_ret
  exact ⟨rfl,rfl⟩
 rename_i hz
 rw [rounds_succ]
 go_wp2
 go_ret
 have:z=0:=by simpa using hz
 rw [r3 hx hy,this]
 exact ⟨rfl,rfl⟩
set_option maxHeartbeats 4000000 in
theorem Tryz.cloM (x1 x2 x3 y1 y2 y3 r:Int) (W:World) (hx:-1000000≤x1∧x1≤1000000∧-1000000≤x2∧x2≤1000000∧-1000000≤x3∧x3≤1000000) (hy:-1000000≤y1∧y1≤1000000∧-1000000≤y2∧y2≤1000000∧-1000000≤y3∧y3≤1000000)
  (r1:(x1-y1 != 0)=true→r=x1-y1) (r2:(x1-y1 != 0)=false→(x2-y2 != 0)=true→r=x2-y2) (r3:(x1-y1 != 0)=false→(x2-y2 != 0)=false→r=x3-y3) :
  Calls Tryz.prog 29 #[.agg #[.int .i64 x1,.int .i64 x2,.int .i64 x3],.agg #[.int .i64 y1,.int .i64 y2,.int .i64 y3]] W fun e w'=>e=.returned (.int .i64 r)∧∃ q os',w'=grow (W.drewN q) os':=by
 have hor:=fun (b:Nat) W' h0 h1 h2=>Tryz.orM (x1-y1) (x2-y2) (x3-y3) r b W' h0 h1 h2 r1 r2 r3
 clear r1 r2 r3
 go_enter Tryz.func29,Tryz.ntmps29
 go_wp2_with (go_at_call 30;refine (hor _ _ (by rw [World.cell?_alloc_at _ _ _ _ (by simp)];rfl) (by rw [World.cell?_alloc_at _ _ _ _ (by simp)];rfl) (by rw [World.cell?_alloc_at _ _ _ _ (by simp)];rfl)).mono ?_;rintro e w' ⟨rfl,rfl⟩)
 go_ret
 exact ⟨rfl,0,_,by rw [alloc_eq_grow,alloc_eq_grow,alloc_eq_grow,grow_grow,grow_grow];rfl⟩
end Go.Proofs
namespace Go.Ab
open Go
set_option maxRecDepth 100000
set_option maxHeartbeats 4000000
def z7E (l:List Mt):List Mt:=l.mergeSort (fun a b=>!(decide (z7u b a<0)))
def zKf (l:List Mt):AV:=if l.isEmpty then .nilslice else .list 3 (l.map mtA)
theorem z7v:∀ {l:List Mt},∀ x∈l.map mtA,x.cells.length=3:=fun x hx=>by
 obtain ⟨t,_,rfl⟩:=lA4.1 hx
 rfl
def mtB (m:Mt):Prop:=m.1≤1000000∧m.2.1≤1000000∧m.2.2≤1000000
theorem zJj (l:List Mt):z0N (zKf l):=by
 unfold zKf
 split
 ·exact z0N.nilslice
 ·exact z0N.list _ fun x hx=>by
   obtain ⟨q,_,rfl⟩:=lA4.1 hx
   exact z0N.agg fun y hy=>by
    simp only [lAT,lA5,or_false] at hy
    rcases hy with rfl | rfl | rfl<;>exact z0N.int _ _
theorem zEY (l:List Mt) (e:Int):z0N (.tuple [zKf l,.int .i64 e]):=z0N.tuple fun x hx=>by
 simp only [lAT,lA5,or_false] at hx
 rcases hx with rfl | rfl
 ·exact zJj _
 ·exact z0N.int _ _
theorem zQc {xv:AV} {xs:List AV} (hx:Sl 1 xv xs):z5M (if 1*1=0 then [] else z1J 1 [.nilslice]) [(0,1)] [xv]=some [xv]:=by
 cases hx<;>rfl
abbrev Mb:={m:Mt // mtB m}
instance:Inhabited Mb:=⟨⟨(0,0,0),by unfold mtB;exact ⟨by decide,by decide,by decide⟩⟩⟩
def zQd (m:Mb):List Value:=[.int .i64 m.1.1,.int .i64 m.1.2.1,.int .i64 m.1.2.2]
def cfM (x y:Mb):Int:=z7u x.1 y.1
theorem ltM (x y:Mb):Proofs.ltOf cfM x y=decide (z7u x.1 y.1<0):=rfl
theorem zMH (x y:Mb):Proofs.ltOf cfM x y=true↔MtR x.1 y.1:=by rw [ltM,lAD,z9Y]
theorem zGS (x y:Mb):Proofs.ltOf cfM x y=false↔¬ MtR x.1 y.1:=by rw [←zMH,lCB]
theorem swoM:Sort.SWO (Proofs.ltOf cfM) where
 irrefl x:=by rw [zGS];exact fun h=>h.asymm h
 trans x y z h1 h2:=by
  rw [zMH] at *
  exact h1.trans h2
 ntrans x y z h1 h2:=by
  rw [zGS] at *
  intro h
  rcases Classical.em (x.1=y.1) with e | e
  ·rw [e] at h;exact h2 h
  ·rcases MtR.tri e with e | e
   ·exact h1 e
   ·exact h2 (e.trans h)
theorem totM (x y:Mb) (h1:Proofs.ltOf cfM x y=false) (h2:Proofs.ltOf cfM y x=false):x=y:=by
 rw [zGS] at *
 refine Subtype.ext ?_
 rcases Classical.em (x.1=y.1) with e | e
 ·exact e
 ·rcases MtR.tri e with e | e
  ·exact absurd e h1
  ·exact absurd e h2
def mtI (m:Mt):Nat→Int
 | 0=>m.1
 | 1=>m.2.1
 | _=>m.2.2
theorem zGd:∀ (ms:List Mt) (t:Nat),t<ms.length*3→(z0j (ms.map mtA))[t]? =some (.int .i64 (mtI (ms.getD (t / 3) (0,0,0)) (t % 3)))
 | [],t,h=>by simp at h
 | m::ms,t,h=>by
  have e:z0j ((m::ms).map mtA)=.int .i64 m.1::.int .i64 m.2.1::.int .i64 m.2.2::z0j (ms.map mtA):=rfl
  rw [e]
  match t,h with
  | 0,_=>rfl
  | 1,_=>rfl
  | 2,_=>rfl
  | t+3,h =>
   simp only [lBE] at h
   have ih:=zGd ms t (by omega)
   rw [show (t+3) / 3=t / 3+1 by omega,show (t+3) % 3=t % 3 by omega]
   simpa using ih
theorem zHx (d:Array Mb) (t:Nat) (h:t<d.size*3):(Sort.flatK zQd 3 d)[t]! = .int .i64 (mtI ((d.toList.map Subtype.val).getD (t / 3) (0,0,0)) (t % 3)):=by
 rw [Sort.get_flatK _ _ _ _ h]
 have h3:t / 3<d.size:=by omega
 have e:(d.toList.map Subtype.val).getD (t / 3) (0,0,0)=(d[t / 3]!).1:=by
  rw [getElem!_pos d _ h3,lAB,lAM,Array.getElem?_toList,lBY h3];rfl
 rw [e]
 generalize d[t / 3]! = m
 have h4:t % 3<3:=Nat.mod_lt _ (by omega)
 generalize t % 3=j at *
 match j,h4 with
 | 0,_=>rfl
 | 1,_=>rfl
 | 2,_=>rfl
def mbs (ms:List Mt) (hb:∀ m∈ms,mtB m):List Mb:=ms.attach.map fun m=>⟨m.1,hb m.1 m.2⟩
theorem zMD (ms:List Mt) (hb:∀ m∈ms,mtB m):(mbs ms hb).map Subtype.val=ms:=by
 unfold mbs
 rw [lB0]
 exact List.attach_map_subtype_val ms
theorem zME (ms:List Mt) (hb:∀ m∈ms,mtB m):(mbs ms hb).length=ms.length:=by
 unfold mbs
 simp
theorem zPZ (ms:List Mt) (hb:∀ m∈ms,mtB m):((mbs ms hb).mergeSort fun x y=>!(Proofs.ltOf cfM) y x).map Subtype.val=z7E ms:=by
 unfold z7E
 have h:=List.map_mergeSort (r:=fun x y:Mb=>!(Proofs.ltOf cfM) y x) (f:=(Subtype.val:Mb→Mt)) (s:=fun a b=>!(decide (z7u b a<0))) (l:=mbs ms hb) (fun a _ b _=>rfl)
 rw [zMD] at h
 exact h
theorem zSx {W:z0B} {id:Nat} {ms:List Mt} (hg:W[id]? =some (.cells (z0j (ms.map mtA)))) (hb:∀ m∈ms,mtB m) (hn:ms.length≤1000000) :
  z0D PP 28 [.sl id 0 ms.length 3,.clo (.func 29) [] []] W (fun r H'=>r=.ret (.tuple [])∧H'=W.set id (.cells (z0j ((z7E ms).map mtA)))):=by
 intro φ σ cargs w hr hc
 obtain ⟨x,y,rfl,hx,hy⟩:=z6J hc
 cases hy with
 | clo _ _ _ fs' cs' hf hc' rf rc =>
  have hfe:fs' = #[]:=by simpa using hf.symm
  have hce:cs' = #[]:=by simpa using hc'.symm
  subst hfe;subst hce
  cases hx with
  | sl _ _ _ _ cap L hp hn2 hcap =>
   obtain ⟨arr,t,fr,h1,h2,h3,h4,h5,h6⟩:=z3r hr hg hp
   have hfl:(z0j (ms.map mtA)).length=ms.length*3:=by rw [z0y (sz:=3) z7v,lAE]
   rw [hfl] at h3 h5
   let d:Array Mb:=(mbs ms hb).toArray
   have hds:d.size=ms.length:=by show (mbs ms hb).toArray.size=_;rw [List.size_toArray,zME]
   have hcell:∀ j,j<ms.length*3→arr[L.o+j]? =some (Sort.flatK zQd 3 d)[j]!:=by
    intro j hj
    have:=h5 j hj
    rw [getD_some (by omega)]
    rw [lAB,zGd ms j hj,lB1] at this
    rw [zHx d j (by omega)]
    have e:d.toList.map Subtype.val=ms:=zMD ms hb
    rw [e]
    generalize arr.getD (L.o+j) undef=c at this
    cases this
    rfl
   have hH:Sort.HoldsK zQd 3 w L.b (L.o+0) d:=by
    intro j hj
    rw [Sort.size_flatK,hds] at hj
    refine ⟨?_,?_⟩
    ·have:=z1h (o:=L.o+j) h1
     unfold at_ at this
     rw [lDT,this,hcell j hj];rfl
    ·have:=z8A (o:=L.o+j) h1 (h4 _ (by omega) (by omega))
     unfold at_ at this
     rw [lDT];exact this
   have hcall:=Proofs.AnyQ.slices_SortFunc_total Proofs.Tryz.laysSF 3 Proofs.Tryz.isAgg40 Proofs.Tryz.sizeOf40 zQd (fun _=>rfl) (fun m v hv=>by
    simp only [zQd,lAT,lA5,or_false] at hv
    rcases hv with rfl | rfl | rfl<;>rfl) cfM swoM 29 #[] L.b (L.o+0) cap d w (Proofs.enters_of Proofs.Tryz.func29 (by kernel_rfl) rfl) (fun m os dk _ x y=>by
     obtain ⟨⟨x1,x2,x3⟩,hx⟩:=x
     obtain ⟨⟨y1,y2,y3⟩,hy⟩:=y
     unfold mtB at hx hy
     simp only at hx hy
     refine Proofs.Tryz.cloM x1 x2 x3 y1 y2 y3 (z7u (x1,x2,x3) (y1,y2,y3)) _ ⟨by omega,by omega,by omega,by omega,by omega,by omega⟩ ⟨by omega,by omega,by omega,by omega,by omega,by omega⟩ ?_ ?_ ?_
     ·intro h
      simp only [bne_iff_ne,ne_eq] at h
      unfold z7u
      rw [if_pos (by simp only;omega)]
     ·intro h h'
      simp only [bne_iff_ne,ne_eq,bne_eq_false_iff_eq] at h h'
      unfold z7u
      rw [if_neg (by simp only;omega),if_pos (by simp only;omega)]
     ·intro h h'
      simp only [bne_eq_false_iff_eq] at h h'
      unfold z7u
      rw [if_neg (by simp only;omega),if_neg (by simp only;omega)]) hH (hr.bnd _ _ hp) (by omega) totM
   rw [hds] at hcall
   refine Calls.mono hcall ?_
   rintro e w' ⟨rfl,n,os,rfl⟩
   have hsm:(((mbs ms hb).mergeSort fun x y=>!(Proofs.ltOf cfM) y x).toArray).toList.map Subtype.val=z7E ms:=zPZ ms hb
   have hss:(((mbs ms hb).mergeSort fun x y=>!(Proofs.ltOf cfM) y x).toArray).size=ms.length:=by rw [List.size_toArray,List.length_mergeSort,zME]
   have hml:(z7E ms).length=ms.length:=by unfold z7E;exact List.length_mergeSort _
   have hdl:(d.toList.mergeSort fun x y=>!(Proofs.ltOf cfM) y x).toArray=((mbs ms hb).mergeSort fun x y=>!(Proofs.ltOf cfM) y x).toArray:=rfl
   rw [hdl]
   generalize ((mbs ms hb).mergeSort fun x y=>!(Proofs.ltOf cfM) y x).toArray=dS at *
   have hfl2:(z0j ((z7E ms).map mtA)).length=ms.length*3:=by rw [z0y (sz:=3) z7v,lAE,hml]
   have hFS:(Sort.flatK zQd 3 dS).size=ms.length*3:=by rw [Sort.size_flatK,hss]
   have hFv:∀ i,i<ms.length*3→VRel φ σ ((z0j ((z7E ms).map mtA)).getD i .top) (Sort.flatK zQd 3 dS)[i]!:=fun i hi=>by
    rw [zHx dS i (by omega),hsm,lAB,zGd _ _ (by omega),lB1]
    exact .int _ _
   unfold Proofs.sortWorldK Sort.putRowK
   generalize Sort.flatK zQd 3 dS=F at *
   have hb2:L.b<w.heap.size:=hr.bnd _ _ hp
   let arr':Array Value:=Go.Sort.putCells _root_.id (L.o+0) F arr
   have hget:∀ j,arr'[j]? =(arr[j]?).map fun x=>if L.o≤j∧j<L.o+ms.length*3 then F[j-L.o]! else x:=by
    intro j
    show (Go.Sort.putCells _root_.id (L.o+0) F arr)[j]? =_
    simp only [Go.Sort.putCells,Array.getElem?_mapIdx,lDT,hFS]
    rfl
   have hsz:arr'.size=arr.size:=by show (Go.Sort.putCells _ _ _ arr).size=_;simp [Go.Sort.putCells]
   have step1:Step φ σ W w φ σ (W.set id (.cells (z0j ((z7E ms).map mtA)))) (World.setObj_ w L.b (.cells arr' t fr)):=by
    refine z9P hr hg rfl hp ?_ rfl ?_
    ·refine ⟨arr',t,fr,by rw [z2L,if_pos rfl,if_pos hb2],by rw [hsz];exact h2,by rw [hfl2];exact h3,h4,?_,h6⟩
     intro i hi
     rw [hfl2] at hi
     have hv:=hget (L.o+i)
     rw [hcell i hi,lBH,if_pos ⟨by omega,by omega⟩,show L.o+i-L.o=i by omega] at hv
     rw [lAR,hv]
     exact hFv i hi
    ·intro j v hσ
     have hj:j<L.o:=by
      rcases lBB j L.o with h | h
      ·exact h
      ·rw [h6 j h] at hσ;cases hσ
     have h7:=hr.sig _ _ _ hσ
     rw [z1h h1] at h7
     rw [z1h (arr:=arr') (t:=t) (fr:=fr) (by rw [z2L,if_pos rfl,if_pos hb2]),hget,h7,lBH,if_neg (by omega)]
   have step2:RowKit.Below (World.setObj_ w L.b (.cells arr' t fr)).heap.size (World.setObj_ w L.b (.cells arr' t fr))
     (Go.Sort.grow (Go.Sort.putRow _root_.id (Go.Sort.ahead w n) L.b (L.o+0) F) os):=by
    refine ⟨rfl,rfl,rfl,by simp [World.setObj_],?_⟩
    intro k hk
    have hk':k<w.heap.size:=by simpa [World.setObj_] using hk
    rw [z2L]
    simp only [Go.Sort.grow,Go.Sort.putRow,Go.Sort.mapBlock,Go.Sort.ahead]
    rw [lB8 (by simpa using hk'),Array.getElem?_modify]
    by_cases e:L.b=k
    ·subst e
     rw [if_pos rfl,if_pos rfl,if_pos hk',h1]
     rfl
    ·rw [if_neg e,if_neg e]
   have s:=step1.trans (zBX step1.hrel step2)
   refine ⟨φ,σ,.ret (.tuple []),_,s,?_,⟨_,rfl,.tuple _ _ rfl fun i=>by simpa using VRel.top _⟩,rfl,rfl⟩
   refine ⟨by simp,fun i hi=>?_⟩
   rw [lA7]
   by_cases e:id=i
   ·subst e;rw [hg] at hi;cases hi
   ·rw [if_neg e];exact hi
theorem zSy (W:z0B):z0D PP 28 [.nilslice,.clo (.func 29) [] []] W (fun r H'=>r=.ret (.tuple [])∧H'=W):=by
 refine z5A fun φ σ cargs w hr hc=>?_
 obtain ⟨x,y,rfl,hx,hy⟩:=z6J hc
 cases hx
 refine (Proofs.Tryz.sortNone none 0 y w).mono ?_
 rintro e w' ⟨rfl,rfl⟩
 exact ⟨⟨_,rfl,.tuple _ _ rfl fun i=>by simpa using VRel.top _⟩,rfl⟩
theorem zXt {lo:Nat} {W:z0B} {kw:AV} {ms:List Mt} (ho:z3v 3 lo W kw (ms.map mtA)) (hb:∀ m∈ms,mtB m) (hl:ms.length≤1000000) :
  z0D PP 28 [kw,.clo (.func 29) [] []] W (fun r H'=>r=.ret (.tuple [])∧z3v 3 lo H' kw ((z7E ms).map mtA)∧(∀ (j:Nat) (b:Blk),(∀ k,kw≠.sl j 0 k 3)→W[j]? =some b→H'[j]? =some b)∧W.length≤H'.length):=by
 obtain ⟨h0,⟨h1,rfl⟩ | ⟨id,rfl,h2,h3,h4⟩⟩:=ho
 ·have:ms=[]:=by simpa using h1
  subst this
  exact (zSy W).mono fun r H' ⟨e1,e2⟩=>by
   subst e2
   exact ⟨e1,⟨z7v,.inl ⟨by simp [z7E],rfl⟩⟩,fun _ _ _ h=>h,lAL _⟩
 ·have hml:(z7E ms).length=ms.length:=by unfold z7E;exact List.length_mergeSort _
  rw [lAE] at *
  refine (zSx h2 hb hl).mono fun r H' ⟨e1,e2⟩=>?_
  subst e2
  have hlt:=(lAA.1 h2).1
  refine ⟨e1,⟨z7v,.inr ⟨id,by rw [lAE,hml],by rw [lAU hlt],h3,fun e=>h4 ?_⟩⟩,fun j b hj h=>?_,by simp⟩
  ·have e2:(z7E ms).length=0:=by
    have:=congrArg List.length e
    simpa using this
   rw [hml] at e2
   simpa using e2
  ·rw [lCE (fun e=>hj ms.length (by rw [e]))]
   exact h
set_option maxRecDepth 100000
set_option maxHeartbeats 16000000
def msP (r:Ru) (sg x:List Bt):List Mt × Int:=if zDh r sg [x] != 0 then ([],zDh r sg [x]) else (z7E (z7w r sg x),0)
def zGH (rows:List (List (Nat × Nat))) (n:Nat):List Mt:=(List.range n).flatMap fun p=>(rows.getD p []).map fun q=>(p,q.2-p,q.1)
theorem zEX {rows:List (List (Nat × Nat))} {i:Nat} {l:List (Nat × Nat)} (h:rows[i]? =some l):zGH rows (i+1)=zGH rows i++l.map fun q=>(i,q.2-i,q.1):=by
 unfold zGH
 rw [lCS,lBZ,lBU,lDN,lAK,lAB,h];rfl
theorem zHY {rows:List (List (Nat × Nat))} {m:Nat} (h:∀ l∈rows,l.length≤m):∀ i,i≤rows.length→(zGH rows i).length≤i*m
 | 0,_=>by simp [zGH]
 | i+1,hi=>by
  obtain ⟨l,hl⟩:=z0M (l:=rows) (i:=i) (by omega)
  have h1:=zHY h i (by omega)
  have h2:=h l (lAF hl)
  rw [zEX hl,lAH,lAE,lCH]
  omega
theorem zPJ {rows:List (List (Nat × Nat))} {n:Nat} {m:Mt} (h:m∈zGH rows n):∃ i l q,i<n∧rows.getD i []=l∧q∈l∧m=(i,q.2-i,q.1):=by
 unfold zGH at h
 obtain ⟨i,hi,h⟩:=lBW.1 h
 obtain ⟨q,hq,rfl⟩:=lA4.1 h
 exact ⟨i,_,q,lAZ.1 hi,rfl,hq,rfl⟩
section
variable {r:Ru} {sv xv:AV} {sg x:List Bt}
theorem a11 (hsv:Sl 1 sv (sg.map .str)) (hsw:okW sg) (hsn:sg.length≤1000000) (hx:Sl 1 xv (x.map .str)) (hxw:okW x) (hxn:x.length≤1000000) (hr:okR2 r)
  (hgood:zDh r sg [x]=0→HoldOk sg r x x) (H:z0B):z0D PP 10 [z6e r,sv,xv] H (z1A H (.tuple [zKf (msP r sg x).1,.int .i64 (msP r sg x).2])):=by
 refine z0D.plainE (zEY _ _) ?_
 refine z0D.sealed (n:=H.length) ?_
 have hws:WsV (.list 1 [xv]) [xv] [x]:=⟨.list _,rfl,fun i v w h1 h2=>by
  match i with
  | 0 =>
   simp only [lA0,Option.some.injEq] at h1 h2
   subst h1;subst h2
   exact ⟨hx,hxw,hxn⟩
  | i+1=>simp at h1,by simp⟩
 have hc2:∀ v∈[xv],v.cells=[v]:=fun v hv=>by
  simp only [lAT,lA5,or_false] at hv
  subst hv
  exact (z5S hx).2.1
 have k26:=fun H'=>a26 hsv hsw hsn hws hr H'
 have k27:=fun (hg:HoldOk sg r x x) H'=>a27 hsv hg.asc hg.sn hg.ru H'
 obtain ⟨hx1,hx2,hx3⟩:=z5S hx
 have hsc:AV.scalar (z0T r.pn r.pairs)=true:=z2E _ _
 have hsc2:AV.scalar (z0U r.ln r.places)=true:=z2F _ _
 refine is10.c3 z0R mixed rfl ?_
 rw [lAK]
 rw [z5y] at k26 k27 ⊢
 generalize z0T r.pn r.pairs=pv0 at *
 generalize z0U r.ln r.places=lv0 at *
 refine z1e (z0c ?_)
 refine z1E (.agg [.int .i64 r.kind,pv0,lv0,.bool r.below]) rfl (by simp only [AV.shaped,lB4,hsc,hsc2];first | done | rfl) ?_
 have x4:(H++[Blk.cells [.int .i64 r.kind,pv0,lv0,.bool r.below]])[H.length]? =some (.cells [.int .i64 r.kind,pv0,lv0,.bool r.below]):=z0K
 have xk:=zGW (H:=H).app [Blk.cells [.int .i64 r.kind,pv0,lv0,.bool r.below]]
 have xl:(H++[Blk.cells [.int .i64 r.kind,pv0,lv0,.bool r.below]]:z0B).length=H.length+1:=by simp
 show VV _ _ _ (H++[Blk.cells [.int .i64 r.kind,pv0,lv0,.bool r.below]]) _ _
 generalize (H++[Blk.cells [.int .i64 r.kind,pv0,lv0,.bool r.below]]:z0B)=X at *
 refine z0A ?_
 refine z0Z (out:=[xv]) (zQc hx) ?_
 refine z0L (R:=z1A ((X++[Blk.cells [xv]]).set X.length .dead) (.int .i64 (zDh r sg [x]))) rfl (z0D.sealArgs (id:=X.length) (args':=[.agg [.int .i64 r.kind,pv0,lv0,.bool r.below],sv,.list 1 [xv]]) z0K rfl (fun i=>?_) (k26 _)) ?_ ?_
 ·match i with
  | 0=>exact .refl _
  | 1=>exact .refl _
  | 2=>exact .sl 0 1 1 [xv] rfl (fun v hv=>by rw [hc2 v hv];rfl) (by rw [z1B hc2];rfl) (by simp)
  | i+3=>exact .refl _
 rotate_left
 ·rintro u V' ⟨hu,_⟩
  cases hu
 rintro u V ⟨hu,rfl⟩
 cases hu
 have vk:AskMs [] H ((X++[Blk.cells [xv]]).set X.length .dead):=(xk.app _).own (by omega) (fun p hp=>by cases hp)
 have v4:((X++[Blk.cells [xv]]).set X.length .dead)[H.length]? =some (.cells [.int .i64 r.kind,pv0,lv0,.bool r.below]):=z0J (z0G x4) (by omega)
 generalize (X++[Blk.cells [xv]]).set X.length .dead=Y at *
 clear x4 xk xl k26
 unfold msP
 refine z0A ?_
 cases h1:(zDh r sg [x] != 0)
 rotate_left
 ·rw [if_pos rfl]
  refine z0A ?_
  exact z0Y rfl (.inl ⟨_,_,_,rfl,.done _ _,rfl,vk⟩)
 rw [if_neg (by simp)]
 have hg:=hgood (by simpa using h1)
 have k29x:=fun H'=>a29 hsv hx hg.asc hg.sn hxn hg.xi H'
 have hxl:=hg.xl
 have hps:(r.pairs.map (z3u sg)).length≤1000:=by rw [lAE];exact hg.ru.np
 have hal:(x.map (mu sg)).length≤60:=by rw [lAE];exact hxl
 have hM:z7w r sg x=zGH (z4M (r.pairs.map (z3u sg)) (z8F sg (z0d r)) (z3A sg (z0d r)) (x.map (mu sg))) (x.map (mu sg)).length:=by rw [lAE];rfl
 rw [hM]
 clear hM
 generalize x.map (mu sg)=a at *
 refine z0A ?_
 refine z0L rfl (k27 hg Y) ?_ ?_
 rotate_left
 ·rintro u V' (⟨v,hu,_⟩ | ⟨p,_,hf⟩)
  ·cases hu
  ·exact hf.elim
 rintro u V (⟨v,hu,hold,pv,av,bv,cs,ds,aid,mid,hl,hin,hmid⟩ | ⟨p,hu,_⟩)
 rotate_left
 ·cases hu
 cases hu
 have hvk:AskMs [] H V:=⟨fun p hp=>(by cases hp),fun j b _ h=>hold j b (vk.old j b (fun p hp=>by cases hp) h),by
  rcases lBB V.length H.length with h | h
  ·exfalso
   have:=(lAA.1 (hold _ _ v4)).1
   omega
  ·exact h⟩
 have hpl:=hl.pl
 obtain rfl:=hl.eq
 generalize r.pairs.map (z3u sg)=ps at *
 generalize DT (zDd sg (z0d r))=D at *
 generalize z8F sg (z0d r)=fs at *
 generalize z3A sg (z0d r)=gs at *
 have hmH:H.length<mid:=by have:=(lAA.1 (hold _ _ v4)).1;have:=(lAA.1 v4).1;omega
 clear hmid k27 hold v4 vk Y
 refine z0A ?_
 refine z0H rfl (k29x _) ?_
 have hmV:=hin.lt
 refine z0L rfl (a28s (x:=a) hl (by omega) hin) ?_ ?_
 rotate_left
 ·rintro u V' (⟨v,hu,_⟩ | ⟨p,_,hf⟩)
  ·cases hu
  ·exact hf.elim
 rintro u W (⟨v,hu,hv,hin1⟩ | ⟨p,hu,_⟩)
 rotate_left
 ·cases hu
 cases hu
 have wk:AskMs [] H W:=⟨fun p hp=>(by cases hp),fun j b _ h=>hin1.old (by have:=(lAA.1 h).1;omega) (hvk.old j b (fun p hp=>by cases hp) h),by have:=hin1.len;have:=hvk.len;omega⟩
 have hrs:Sl 1 u ((z4M ps fs gs a).map z9U):=by rw [hv];exact .list _
 have hlen:(z4M ps fs gs a).length=a.length:=by simp [z4M]
 have hrow:∀ (i:Nat) (l:List (Nat × Nat)),(z4M ps fs gs a)[i]? =some l→l.length≤1000∧∀ q∈l,q.1≤1000∧i≤q.2∧q.2-i≤1000000∧q.2≤2000000:=fun i l h=>by
  have hi:=(lAA.1 h).1
  rw [hlen] at hi
  have hm:=lAF h
  have h2:=(zEJ l hm).1
  have h3:=(zEJ l hm).2
  refine ⟨by omega,fun q hq=>?_⟩
  have h4:=h3 q hq
  unfold z4M at h
  rw [lAM,lCM hi] at h
  injection h with h
  subst h
  unfold z8M at hq
  obtain ⟨n,hn,rfl⟩:=lA4.1 hq
  simp only at h4 ⊢
  obtain ⟨p,hp⟩:=z0M (l:=ps) (i:=n) h4
  have h5:=hpl p (lAF hp)
  have h6:(ps.getD n ([],[])).1.length=p.1.length:=by rw [lAB,hp];rfl
  omega
 have hrowL:∀ l∈z4M ps fs gs a,l.length≤1000:=fun l hl=>by
  obtain ⟨i,hi,rfl⟩:=lBR.1 hl
  exact (hrow i _ (lAG hi)).1
 clear hv hl hin hin1 hvk k29x hpl
 generalize z4M ps fs gs a=rows at *
 have hlm:(rows.map z9U).length=a.length:=by rw [lAE,hlen]
 have hmB:∀ m∈zGH rows a.length,mtB m:=fun m hm=>by
  obtain ⟨i,l,q,hi,hl,hq,rfl⟩:=zPJ hm
  obtain ⟨l',hl'⟩:=z0M (l:=rows) (i:=i) (by omega)
  rw [lAB,hl'] at hl
  simp only [lB1] at hl
  subst hl
  obtain ⟨a1,a2,a3,a4⟩:=(hrow i _ hl').2 q hq
  exact ⟨by simp only;omega,by simp only;omega,by simp only;omega⟩
 have hmL:=zHY hrowL
 refine z0A ?_
 refine z0F a.length (fun i al W=>∃ kw,al=[(9,kw),(28,u),(29,.int .i64 a.length),(30,.int .i64 i)]∧AskMs [] H W∧z3v 3 H.length W kw ((zGH rows i).map mtA)) ⟨_,by rw [hlm];rfl,wk,.nil⟩ ?_
 clear wk W
 rintro i _ W hi ⟨kw,rfl,wk,wo⟩
 have e1:decide ((i:Int)<(a.length:Int))=decide (i<a.length):=by simp only [lAP];omega
 have hpi:=hmL i (by omega)
 refine z0A ?_
 rw [e1]
 cases hc:decide (i<a.length)
 ·simp only [lAC] at hc
  obtain rfl:i=a.length:=by omega
  refine z0A ?_
  refine z0L rfl (zXt wo hmB (by omega)) ?_ ?_
  rotate_left
  ·rintro u V' ⟨hu,_⟩
   cases hu
  rintro u' Z ⟨hu,zo,zp,zl⟩
  cases hu
  have zk:AskMs [] H Z:=wk.growG wo (lAL _) zp zl
  refine z0A ?_
  obtain ⟨K,g1,g2⟩:=zLj (n:=H.length) zo (lAL _)
  rw [List.isEmpty_map] at g1
  exact z0Y rfl (.inl ⟨_,_,K,rfl,SealsX.ctx (C:=fun v=>.tuple [v,.int .i64 0]) (fun h=>.tuple _ _ rfl fun i=>match i with
   | 0=>h
   | 1=>.refl _
   | i+2=>.refl _) g1,rfl,zk.sealedG zo (lAL _) g2⟩)
 simp only [lAD] at hc
 obtain ⟨row,hrw⟩:=z0M (l:=rows) (i:=i) (by omega)
 obtain ⟨hrl,hrq⟩:=hrow i row hrw
 have hrv:(rows.map z9U)[i]? =some (z9U row):=by rw [lAM,hrw];rfl
 obtain ⟨sc1,sc2⟩:=zLZ row
 have hsr:=zRP row
 have hln:((row.map z5C).map zBG).length=row.length:=by rw [lAE,lAE]
 have hsucc:=zEX hrw
 generalize z9U row=rv at *
 refine z0A ?_
 rw [sc2]
 refine z0A ?_
 refine z0F row.length (fun k al W=>∃ kw,al=[(9,kw),(10,.int .i64 i),(28,u),(29,.int .i64 a.length),(30,.int .i64 i),(35,rv),(36,.int .i64 row.length),(37,.int .i64 k)]∧AskMs [] H W∧z3v 3 H.length W kw ((zGH rows i++(row.take k).map fun q=>(i,q.2-i,q.1)).map mtA)) ⟨_,by rw [hln];rfl,wk,by rw [List.take_zero,lCZ,lAK];exact wo⟩ ?_
 clear wk wo W kw
 rintro k _ W hk ⟨kw,rfl,wk,wo⟩
 have e2:decide ((k:Int)<(row.length:Int))=decide (k<row.length):=by simp only [lAP];omega
 refine z0A ?_
 rw [e2]
 cases hc2:decide (k<row.length)
 ·simp only [lAC] at hc2
  have htk:row.take k=row:=lAS (by omega)
  rw [htk,←hsucc] at wo
  refine z0A ?_
  exact ⟨hc,kw,rfl,wk,wo⟩
 simp only [lAD] at hc2
 obtain ⟨q,hq⟩:=z0M (l:=row) (i:=k) hc2
 obtain ⟨q1,q2,q3,q4⟩:=hrq q (lAF hq)
 have hqv:((row.map z5C).map zBG)[k]? =some (.agg [.int .i64 q.1,.int .i64 q.2]):=by rw [lAM,lAM,hq];rfl
 have htk:(zGH rows i++(row.take (k+1)).map fun q=>(i,q.2-i,q.1)).map mtA=(zGH rows i++(row.take k).map fun q=>(i,q.2-i,q.1)).map mtA++[.agg [.int .i64 i,.int .i64 (q.2-i:Nat),.int .i64 q.1]]:=by
  rw [lBA,hq]
  simp only [Option.toList,lBP,lA6,lCZ,lA2];rfl
 have hln2:((zGH rows i++(row.take k).map fun q=>(i,q.2-i,q.1)).map mtA).length≤1000000:=by
  rw [lAE,lAH,lAE,lCW]
  omega
 refine z0A ?_
 refine z1a (ws:=[.int .i64 q.1,.int .i64 q.2]) rfl rfl rfl rfl rfl rfl ?_
 have y13:(W++[Blk.cells [.int .i64 q.1,.int .i64 q.2]])[W.length]? =some (.cells [.int .i64 q.1,.int .i64 q.2]):=z0K
 have yk:=wk.app [Blk.cells [.int .i64 q.1,.int .i64 q.2]]
 have yo:=wo.app [Blk.cells [.int .i64 q.1,.int .i64 q.2]]
 generalize (W++[Blk.cells [.int .i64 q.1,.int .i64 q.2]]:z0B)=Y at *
 generalize W.length=b13 at *
 clear wk wo W
 generalize ((zGH rows i++(row.take k).map fun q=>(i,q.2-i,q.1)).map mtA)=cur at *
 refine z0A ?_
 refine z5j rfl rfl (by omega) (by omega) ?_
 refine z0A ?_
 have e3:(q.2:Int)-(i:Int)=((q.2-i:Nat):Int):=by omega
 rw [e3]
 refine z1w (out:=[.int .i64 i,.int .i64 (q.2-i:Nat),.int .i64 q.1]) rfl rfl ?_
 refine z0Z (out:=[.int .i64 i,.int .i64 (q.2-i:Nat),.int .i64 q.1]) rfl ?_
 refine zCg (v:=kw) rfl yo rfl rfl rfl (by omega) yk.len ?_
 intro kv' Z zo zp zl
 refine z0A ?_
 exact ⟨hc2,kv',rfl,yk.growG yo (lAL _) zp zl,by rw [htk];exact zo⟩
end
def msR (r:Ru) (sg x:List Bt):List Mt × Int:=if zKN r sg [x] != 0 then ([],zKN r sg [x]) else (zDB r x,0)
def zBH (len:Nat→Nat) (p l:Nat) (row:List Nat):List Mt:=(row.filter fun k=>len k==l+1).map fun k=>(p,l+1,k)
theorem zEQ {rows:Nat→List Nat} {len:Nat→Nat} {n:Nat}:zER rows len (n+1)=zER rows len n++(List.range 6).flatMap fun l=>zBH len n l (rows n):=by
 unfold zER
 rw [lCS (n:=n),lBZ,lBU,lDN,lAK];rfl
theorem zFA {len:Nat→Nat} {p l:Nat} {row:List Nat}:((List.range (l+1)).flatMap fun l=>zBH len p l row)=((List.range l).flatMap fun l=>zBH len p l row)++zBH len p l row:=by
 rw [lCS (n:=l),lBZ,lBU,lDN,lAK]
theorem zHk {len:Nat→Nat} {p l:Nat} {row:List Nat}:(zBH len p l row).length≤row.length:=by
 unfold zBH
 rw [lAE]
 exact List.length_filter_le _ _
theorem zDD {len:Nat→Nat} {p:Nat} {row:List Nat}:∀ l,((List.range l).flatMap fun l=>zBH len p l row).length≤l*row.length
 | 0=>by simp
 | l+1=>by
  rw [zFA,lAH,lCH]
  have:=zDD (len:=len) (p:=p) (row:=row) l
  have:=zHk (len:=len) (p:=p) (l:=l) (row:=row)
  omega
theorem zCw {rows:Nat→List Nat} {len:Nat→Nat} {m:Nat} (h:∀ p,(rows p).length≤m):∀ n,(zER rows len n).length≤n*(6*m)
 | 0=>by simp [zER]
 | n+1=>by
  rw [zEQ,lAH,lCH]
  have h1:=zCw (len:=len) h n
  have h2:=zDD (len:=len) (p:=n) (row:=rows n) 6
  have h3:=h n
  omega
section
variable {r:Ru} {sv xv:AV} {sg x:List Bt}
theorem a12 (hsv:Sl 1 sv (sg.map .str)) (hsw:okW sg) (hsn:sg.length≤1000000) (hx:Sl 1 xv (x.map .str)) (hxw:okW x) (hxn:x.length≤1000000) (hr:okR r) (hoc:(z7T r).length≤1000000)
  (hgood:zKN r sg [x]=0→HoldOkR r x x) (H:z0B):z0D PP 11 [z6e r,sv,xv] H (z1A H (.tuple [zKf (msR r sg x).1,.int .i64 (msR r sg x).2])):=by
 refine z0D.plainE (zEY _ _) ?_
 refine z0D.sealed (n:=H.length) ?_
 have hws:WsV (.list 1 [xv]) [xv] [x]:=⟨.list _,rfl,fun i v w h1 h2=>by
  match i with
  | 0 =>
   simp only [lA0,Option.some.injEq] at h1 h2
   subst h1;subst h2
   exact ⟨hx,hxw,hxn⟩
  | i+1=>simp at h1,by simp⟩
 have hc2:∀ v∈[xv],v.cells=[v]:=fun v hv=>by
  simp only [lAT,lA5,or_false] at hv
  subst hv
  exact (z5S hx).2.1
 have k33:=fun H'=>a33 hsv hsw hsn hws hr hoc H'
 have k34:=fun (hg:HoldOkR r x x) H'=>a34 r hg.ru.nl (fun p hp=>⟨(hg.ru.ok p hp).1,(hg.ru.ok p hp).2,(hg.ru.fo p hp).2.2⟩) H'
 have hsc:AV.scalar (z0T r.pn r.pairs)=true:=z2E _ _
 have hsc2:AV.scalar (z0U r.ln r.places)=true:=z2F _ _
 have hsp:=zEB r.pn r.pairs
 refine is11.c3 z0R mixed rfl ?_
 rw [lAK]
 rw [z5y] at k33 k34 ⊢
 refine z1e (z0c ?_)
 refine z1E (.agg [.int .i64 r.kind,z0T r.pn r.pairs,z0U r.ln r.places,.bool r.below]) rfl (by simp only [AV.shaped,lB4,hsc,hsc2];first | done | rfl) ?_
 have x4:(H++[Blk.cells [.int .i64 r.kind,z0T r.pn r.pairs,z0U r.ln r.places,.bool r.below]])[H.length]? =some (.cells [.int .i64 r.kind,z0T r.pn r.pairs,z0U r.ln r.places,.bool r.below]):=z0K
 have xk:=zGW (H:=H).app [Blk.cells [.int .i64 r.kind,z0T r.pn r.pairs,z0U r.ln r.places,.bool r.below]]
 have xl:(H++[Blk.cells [.int .i64 r.kind,z0T r.pn r.pairs,z0U r.ln r.places,.bool r.below]]:z0B).length=H.length+1:=by simp
 show VV _ _ _ (H++[Blk.cells [.int .i64 r.kind,z0T r.pn r.pairs,z0U r.ln r.places,.bool r.below]]) _ _
 generalize (H++[Blk.cells [.int .i64 r.kind,z0T r.pn r.pairs,z0U r.ln r.places,.bool r.below]]:z0B)=X at *
 refine z0A ?_
 refine z0Z (out:=[xv]) (zQc hx) ?_
 refine z0L (R:=z1A ((X++[Blk.cells [xv]]).set X.length .dead) (.int .i64 (zKN r sg [x]))) rfl (z0D.sealArgs (id:=X.length) (args':=[.agg [.int .i64 r.kind,z0T r.pn r.pairs,z0U r.ln r.places,.bool r.below],sv,.list 1 [xv]]) z0K rfl (fun i=>?_) (k33 _)) ?_ ?_
 ·match i with
  | 0=>exact .refl _
  | 1=>exact .refl _
  | 2=>exact .sl 0 1 1 [xv] rfl (fun v hv=>by rw [hc2 v hv];rfl) (by rw [z1B hc2];rfl) (by simp)
  | i+3=>exact .refl _
 rotate_left
 ·rintro u V' ⟨hu,_⟩
  cases hu
 rintro u V ⟨hu,rfl⟩
 cases hu
 have vk:AskMs [] H ((X++[Blk.cells [xv]]).set X.length .dead):=(xk.app _).own (by omega) (fun p hp=>by cases hp)
 have v4:((X++[Blk.cells [xv]]).set X.length .dead)[H.length]? =some (.cells [.int .i64 r.kind,z0T r.pn r.pairs,z0U r.ln r.places,.bool r.below]):=z0J (z0G x4) (by omega)
 generalize (X++[Blk.cells [xv]]).set X.length .dead=Y at *
 clear x4 xk xl k33
 unfold msR
 refine z0A ?_
 cases h1:(zKN r sg [x] != 0)
 rotate_left
 ·rw [if_pos rfl]
  refine z0A ?_
  exact z0Y rfl (.inl ⟨_,_,_,rfl,.done _ _,rfl,vk⟩)
 rw [if_neg (by simp)]
 have hg:=hgood (by simpa using h1)
 refine z0A ?_
 refine z0L rfl (k34 hg Y) ?_ ?_
 rotate_left
 ·rintro u V' (⟨v,hu,_⟩ | ⟨p,_,hf⟩)
  ·cases hu
  ·exact hf.elim
 rintro u V (⟨v,hu,ms,plv,hveq,hml,hpsl,hnd,hms,hge,hold⟩ | ⟨p,hu,_⟩)
 rotate_left
 ·cases hu
 cases hu
 have hA:AkV r ms plv u:=⟨hveq,hml,hpsl,hnd,hg.ru.fo,hg.ru.nl,hg.ru.np,hg.ru.pl⟩
 have hxl:=hg.xl
 have hYl:=(lAA.1 v4).1
 have v3:=hold _ _ v4
 have hvk:∀ (j:Nat) (b:Blk),H[j]? =some b→V[j]? =some b:=fun j b h=>hold j b (vk.old j b (fun p hp=>by cases hp) h)
 have hge2:∀ p∈z3f r.places ms,H.length<p.1:=fun p hp=>by have:=hge p hp;omega
 have k35:=a35 (X:=V) hA hx hg.gx (by omega) hms
 clear hveq hpsl hge hold k34
 refine z0A ?_
 refine z0L rfl k35 ?_ ?_
 rotate_left
 ·rintro u V' (⟨v,hu,_⟩ | ⟨p,_,hf⟩)
  ·cases hu
  ·exact hf.elim
 rintro u W (⟨v,hu,hv,hin⟩ | ⟨p,hu,_⟩)
 rotate_left
 ·cases hu
 cases hu
 have w3:=hin.old _ _ (fun p hp e=>by have:=hge2 p hp;omega) v3
 have wk:AskMs [] H W:=⟨fun p hp=>(by cases hp),fun j b _ h=>hin.old j b (fun p hp e=>by have:=hge2 p hp;have:=(lAA.1 h).1;omega) (hvk j b h),by have:=(lAA.1 w3).1;omega⟩
 have hrs:Sl 1 u (((List.range x.length).map (z3s r x)).map z3Y):=by rw [hv];exact zNy _
 have hlm:(((List.range x.length).map (z3s r x)).map z3Y).length=x.length:=by simp
 have hrl:∀ p,(z3s r x p).length≤1000:=fun p=>lBM zNK hg.ru.np
 have hrn:∀ p,∀ n∈z3s r x p,n<r.pairs.length:=fun p=>zXT
 have hmat:zDB r x=zER (z3s r x) (zFM r) x.length:=rfl
 rw [hmat]
 have hmL:=zCw (len:=zFM r) hrl
 have hget:∀ p,p<x.length→(((List.range x.length).map (z3s r x)).map z3Y)[p]? =some (z3Y (z3s r x p)):=fun p hp=>by
  rw [lAM,lAM,lCM hp];rfl
 have hplen:=hg.ru.pl
 clear hv hin hvk hge2 hms hA v3 v4 vk hmat hnd hml k35 hYl V Y hgood hg X
 generalize z3s r x=rows at *
 generalize (((List.range x.length).map rows).map z3Y)=rws at *
 have hpg:=fun n (h:n<r.pairs.length)=>zPM (r:=r) h
 generalize zFM r=len at *
 refine z0A ?_
 refine z0F x.length (fun p al W=>∃ kw,al=[(3,.ptr H.length 0),(9,u),(10,kw),(11,.int .i64 p)]∧AskMs [] H W∧W[H.length]? =some (.cells [.int .i64 r.kind,z0T r.pn r.pairs,z0U r.ln r.places,.bool r.below])∧z3v 3 (H.length+1) W kw ((zER rows len p).map mtA)) ⟨_,rfl,wk,w3,.nil⟩ ?_
 clear wk w3 W
 rintro p _ W hp ⟨kw,rfl,wk,w3,wo⟩
 have e1:decide ((p:Int)<(rws.length:Int))=decide (p<x.length):=by rw [hlm];simp only [lAP];omega
 have hpi:=hmL p
 refine z0A ?_
 rw [e1]
 cases hc:decide (p<x.length)
 ·simp only [lAC] at hc
  obtain rfl:p=x.length:=by omega
  refine z0A ?_
  obtain ⟨K,g1,g2⟩:=zLj (n:=H.length) wo (by omega)
  rw [List.isEmpty_map] at g1
  exact z0Y rfl (.inl ⟨_,_,K,rfl,SealsX.ctx (C:=fun v=>.tuple [v,.int .i64 0]) (fun h=>.tuple _ _ rfl fun i=>match i with
   | 0=>h
   | 1=>.refl _
   | i+2=>.refl _) g1,rfl,wk.sealedG wo (by omega) g2⟩)
 simp only [lAD] at hc
 have hrv:=hget p hc
 obtain ⟨sc1,sc2⟩:=z9Z (rows p)
 have hsr:=zHM (rows p)
 have hrp:=hrl p
 have hnp:=hrn p
 have hln:((rows p).map z0w).length=(rows p).length:=lAE _
 have hsucc:=zEQ (rows:=rows) (len:=len) (n:=p)
 generalize zER rows len p=cur at *
 generalize zER rows len (p+1)=cur1 at *
 generalize rows p=row at *
 generalize z3Y row=rv at *
 have hp6:cur.length≤400000:=by omega
 refine z0A ?_
 refine z0F 6 (fun l al W=>∃ kw,al=[(3,.ptr H.length 0),(9,u),(10,kw),(11,.int .i64 p),(12,.int .i64 (l+1:Nat))]∧AskMs [] H W∧W[H.length]? =some (.cells [.int .i64 r.kind,z0T r.pn r.pairs,z0U r.ln r.places,.bool r.below])∧z3v 3 (H.length+1) W kw ((cur++(List.range l).flatMap fun l=>zBH len p l row).map mtA)) ⟨_,rfl,wk,w3,by rw [List.range_zero,lDN,lAK];exact wo⟩ ?_
 clear wk w3 wo W kw
 rintro l _ W hl ⟨kw,rfl,wk,w3,wo⟩
 have e2:decide (((l+1:Nat):Int)≤(6:Int))=decide (l<6):=by simp only [lAP];omega
 have hll:=zDD (len:=len) (p:=p) (row:=row) l
 refine z0A ?_
 rw [e2]
 cases hc2:decide (l<6)
 ·simp only [lAC] at hc2
  obtain rfl:l=6:=by omega
  rw [←hsucc] at wo
  refine z0A ?_
  exact ⟨hc,kw,rfl,wk,w3,wo⟩
 simp only [lAD] at hc2
 have hl2:(cur++(List.range l).flatMap fun l=>zBH len p l row).length≤500000:=by
  rw [lAH]
  have:l*row.length≤6*1000:=Nat.mul_le_mul (by omega) hrp
  omega
 have hsucc2:=zFA (len:=len) (p:=p) (l:=l) (row:=row)
 have hs3:cur++((List.range (l+1)).flatMap fun l=>zBH len p l row)=(cur++(List.range l).flatMap fun l=>zBH len p l row)++zBH len p l row:=by rw [hsucc2,lA2]
 generalize (cur++(List.range l).flatMap fun l=>zBH len p l row)=cu2 at *
 refine z0A ?_
 refine z0F row.length (fun i al W=>∃ kw,al=[(3,.ptr H.length 0),(9,u),(10,kw),(11,.int .i64 p),(12,.int .i64 (l+1:Nat)),(13,.int .i64 i)]∧AskMs [] H W∧W[H.length]? =some (.cells [.int .i64 r.kind,z0T r.pn r.pairs,z0U r.ln r.places,.bool r.below])∧z3v 3 (H.length+1) W kw ((cu2++zBH len p l (row.take i)).map mtA)) ⟨_,rfl,wk,w3,by rw [List.take_zero];unfold zBH;rw [List.filter_nil,lCZ,lAK];exact wo⟩ ?_
 clear wk w3 wo W kw
 rintro i _ W hi ⟨kw,rfl,wk,w3,wo⟩
 have e3:decide ((i:Int)<((row.map z0w).length:Int))=decide (i<row.length):=by rw [hln];simp only [lAP];omega
 have hll3:=zHk (len:=len) (p:=p) (l:=l) (row:=row.take i)
 refine z0A ?_
 rw [sc2]
 refine z0A ?_
 rw [e3]
 cases hc3:decide (i<row.length)
 ·simp only [lAC] at hc3
  have htk:row.take i=row:=lAS (by omega)
  rw [htk,←hs3] at wo
  refine z0A ?_
  exact ⟨hc2,kw,rfl,wk,w3,wo⟩
 simp only [lAD] at hc3
 obtain ⟨n,hn⟩:=z0M (l:=row) (i:=i) hc3
 have hnv:(row.map z0w)[i]? =some (z0w n):=by rw [lAM,hn];rfl
 obtain ⟨pr,hpr,hu,hfl,hpm⟩:=hpg n (hnp n (lAF hn))
 have hsw:=z7S pr.a
 have hlw:(pr.a.l.map AV.str).length=pr.a.l.length:=lAE _
 have hsn:zBH len p l (row.take (i+1))=zBH len p l (row.take i)++if len n==l+1 then [(p,l+1,n)] else []:=by
  unfold zBH
  rw [zMc hn,lBP]
  split<;>rfl
 have e4:((len n:Int)==((l+1:Nat):Int))=(len n==l+1):=by rw [lB6];simp;omega
 refine z0A ?_
 rw [sc2]
 refine z0A ?_
 rw [hlw,←hfl]
 refine z0A ?_
 rw [e4]
 have hcl:((cu2++zBH len p l (row.take i)).map mtA).length≤1000000:=by
  rw [lAE,lAH]
  rw [lCW] at hll3
  omega
 cases hq:(len n==l+1)
 ·rw [hq] at hsn
  refine z0A ?_
  exact ⟨hc3,kw,rfl,wk,w3,by rw [hsn,if_neg (by simp),lAK];exact wo⟩
 ·rw [hq] at hsn
  have htk:(cu2++zBH len p l (row.take (i+1))).map mtA=(cu2++zBH len p l (row.take i)).map mtA++[.agg [.int .i64 p,.int .i64 (l+1:Nat),.int .i64 n]]:=by
   rw [hsn,if_pos rfl,←lA2,lBP];rfl
  generalize (cu2++zBH len p l (row.take i)).map mtA=cu3 at *
  refine z0A ?_
  rw [sc2]
  refine z0A ?_
  refine z1w (out:=[.int .i64 p,.int .i64 (l+1:Nat),.int .i64 n]) rfl rfl ?_
  refine z0Z (out:=[.int .i64 p,.int .i64 (l+1:Nat),.int .i64 n]) rfl ?_
  have hWl:=(lAA.1 w3).1
  refine zCg (v:=kw) rfl wo rfl rfl rfl (by omega) (by omega) ?_
  intro kv' Z zo zp zl
  refine z0A ?_
  exact ⟨hc3,kv',rfl,wk.growG wo (by omega) zp zl,zp _ _ (wo.ne (by omega)) w3,by rw [htk];exact zo⟩
end
end Go.Ab
