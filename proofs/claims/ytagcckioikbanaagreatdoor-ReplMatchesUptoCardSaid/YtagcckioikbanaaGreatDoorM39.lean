/- Part 39 of the proof. -/
import Derived.Test.YtagcckioikbanaaGreatDoorM30
import Derived.Test.YtagcckioikbanaaGreatDoorM37
import Derived.Test.YtagcckioikbanaaGreatDoorM38
set_option linter.unusedVariables false
set_option linter.unusedSimpArgs false
namespace Go.Ab
open Go
set_option maxRecDepth 100000
set_option maxHeartbeats 8000000
def zQK (D:Nat→Bt→Bool) (aid mid:Nat) (H:z0B) (c:AV) (f:Bt→Bool):Prop :=
 ∃ g caps,c=.clo (.func g) [] caps∧hasBody PP g=true∧∀ (H':z0B) (w:Bt),w.length≤1000000→z0n D mid H H'→z0D PP g (.str w::caps) H' (z1r D mid H' (f w))
theorem zQK.to {D:Nat→Bt→Bool} {aid mid:Nat} {H X:z0B} {c:AV} {f:Bt→Bool} (h:zQK D aid mid H c f) (k:z0n D mid H X):zQK D aid mid X c f:=by
 obtain ⟨g,caps,h1,h2,h3⟩:=h
 exact ⟨g,caps,h1,h2,fun H' w hw hin=>h3 H' w hw (k.trans hin)⟩
def z7B (p:Bt × Bt):AV:=.agg [.str p.1,.str p.2]
structure LookV (D:Nat→Bt→Bool) (aid mid:Nat) (H:z0B) (lk pv av bv:AV) (ps:List (Bt × Bt)) (cs ds:List AV) (fs gs:List (Bt→Bool)):Prop where
 eq:lk=.cptr [pv,av,bv]
 sp:Sl 2 pv (ps.map z7B)
 sa:Sl 1 av cs
 sb:Sl 1 bv ds
 la:cs.length=fs.length
 lb:ds.length=gs.length
 lab:fs.length=gs.length
 fa:∀ (i:Nat) (c:AV) (f:Bt→Bool),cs[i]? =some c→fs[i]? =some f→zQK D aid mid H c f
 fb:∀ (i:Nat) (c:AV) (f:Bt→Bool),ds[i]? =some c→gs[i]? =some f→zQK D aid mid H c f
 np:ps.length≤1000000
 nf:fs.length≤1000000
 pl:∀ p∈ps,p.1.length≤1000000
theorem zQK.cells {D:Nat→Bt→Bool} {aid mid:Nat} {H:z0B} {c:AV} {f:Bt→Bool} (h:zQK D aid mid H c f):c.cells=[c]:=by
 obtain ⟨g,caps,rfl,_⟩:=h
 rfl
section
variable {D:Nat→Bt→Bool} {aid mid:Nat} {H:z0B}
theorem a115 {lk pv av bv:AV} {ps:List (Bt × Bt)} {cs ds:List AV} {fs gs:List (Bt→Bool)} {w from_:Bt} {b3 b5 b13 i:Nat} (hl:LookV D aid mid H lk pv av bv ps cs ds fs gs) (h3:H[b3]? =some (.cells [lk])) (h5:H[b5]? =some (.cells [.str w])) (h13:H[b13]? =some (.cells [.str from_])) (hi:i<gs.length) (hw:w.length≤1000000)
  (hfw:from_.length≤w.length) (n3:b3≠mid) (n5:b5≠mid) (n13:b13≠mid) (ha:z0n D mid H H) :
  z0D PP 96 [.int .i64 i,.ptr b3 0,.ptr b5 0,.ptr b13 0] H (z1r D mid H ((gs.getD i fun _=>false) (w.drop from_.length))):=by
 refine zYE.c4 z0R mixed rfl ?_
 rw [lAK]
 have hml:=ha.lt
 obtain ⟨g,hg⟩:=z0M (l:=gs) (i:=i) hi
 obtain ⟨c,hc⟩:=z0M (l:=ds) (i:=i) (by rw [hl.lb];exact hi)
 have hsb:=hl.sb
 have hfu:=hl.fb i c g hc hg
 have hcc:=hfu.cells
 obtain ⟨gf,caps,rfl,hbd,hask⟩:=hfu
 rw [z1Z hg]
 obtain rfl:=hl.eq
 refine z0A ?_
 refine z1f (z2h [mid]) ?_
 refine z0A ?_
 refine zCY (R:=z1r D mid H (g (w.drop from_.length))) rfl (lAL _) rfl hbd (hask H (w.drop from_.length) (by simp;omega) ha) ?_ ?_
 rotate_left
 ·rintro u V' ⟨hu,_⟩
  cases hu
 rintro u V1 ⟨hu,hin⟩
 cases hu
 refine ⟨hin.mod,?_⟩
 refine z0A ?_
 exact z0Y rfl ⟨rfl,hin⟩
def zGw (mid:Nat) (H:z0B) (kv:AV) (l:List Nat):Prop:=(l=[]∧kv=.nilslice)∨∃ kb,kv=.sl kb 0 l.length 1∧H[kb]? =some (.cells (l.map z0w))∧kb≠mid
theorem a195 {kv:AV} {l:List Nat} {caps:List AV} {p:Nat→Bool} {g:FuncId} (hk:zGw mid H kv l) (hn:l.length≤1000000) (hb:hasBody PP g=true) (ha:z0n D mid H H)
  (hcl:∀ (H':z0B) (v:Nat),z0n D mid H H'→v∈l→z0D PP g (z0w v::caps) H' (z1r D mid H' (p v))) :
  z0D PP 163 [kv,.clo (.func g) [] caps] H (fun r H'=>(∃ n:Int,r=.ret (.int .i64 n)∧decide (n≥0)=l.any p)∧z0n D mid H H'):=by
 refine zUG.c2 z0R mixed rfl ?_
 rw [lAK]
 rcases hk with ⟨rfl,rfl⟩ | ⟨kb,rfl,hkb,hkm⟩
 ·have hs:Sl 1 .nilslice []:=.nil
  refine z0A ?_
  refine z0F 0 (fun i al H'=>al=[(0,.nilslice),(1,.clo (.func g) [] caps),(7,.int .i64 0),(8,.int .i64 i)]∧z0n D mid H H') ⟨rfl,ha⟩ ?_
  rintro i _ V hi ⟨rfl,vi⟩
  obtain rfl:i=0:=by omega
  refine z0A ?_
  exact z0Y rfl ⟨⟨-1,rfl,rfl⟩,vi⟩
 refine z0A ?_
 refine z0F l.length (fun i al H'=>al=[(0,.sl kb 0 l.length 1),(1,.clo (.func g) [] caps),(7,.int .i64 l.length),(8,.int .i64 i)]∧z0n D mid H H'∧(l.take i).any p=false) ⟨rfl,ha,by simp⟩ ?_
 rintro i _ V hi ⟨rfl,vi,v1⟩
 have e1:decide ((i:Int)<(l.length:Int))=decide (i<l.length):=by simp only [lAP];omega
 refine z0A ?_
 rw [e1]
 cases hc:decide (i<l.length)
 ·simp only [lAC] at hc
  have:l.take i=l:=lAS (by omega)
  rw [this] at v1
  refine z0A ?_
  exact z0Y rfl ⟨⟨-1,rfl,by rw [v1];rfl⟩,vi⟩
 simp only [lAD] at hc
 obtain ⟨v,hv⟩:=z0M (l:=l) (i:=i) hc
 have k:=hcl V v vi (lAF hv)
 have vk:=vi.old hkm hkb
 refine z0A ?_
 refine z2a (v:=z0w v) rfl vk ?_ ?_
 ·show (l.map z0w)[0+i*1]? =_
  rw [lBN,lCA,lAM,hv];rfl
 refine z2n rfl hb k ?_ ?_
 rotate_left
 ·rintro u V' ⟨hu,_⟩
  cases hu
 rintro u V' ⟨hu,hin⟩
 cases hu
 have vi2:=vi.trans hin
 cases hp:p v
 ·refine z0A ?_
  refine ⟨by omega,rfl,vi2,?_⟩
  rw [lBA,lDK,v1,hv];simp [hp]
 ·refine z0A ?_
  refine z0Y rfl ⟨⟨i,rfl,?_⟩,vi2⟩
  have:l.any p=true:=lA3.2 ⟨v,lAF hv,hp⟩
  rw [this,lAD];omega
theorem a114 {kv:AV} {l:List Nat} {caps:List AV} {p:Nat→Bool} {g:FuncId} (hk:zGw mid H kv l) (hn:l.length≤1000000) (hb:hasBody PP g=true) (ha:z0n D mid H H)
  (hcl:∀ (H':z0B) (v:Nat),z0n D mid H H'→v∈l→z0D PP g (z0w v::caps) H' (z1r D mid H' (p v))) :
  z0D PP 95 [kv,.clo (.func g) [] caps] H (z1r D mid H (l.any p)):=by
 refine is95.c2 z0R mixed rfl ?_
 rw [lAK]
 refine z0A ?_
 refine z0L rfl (a195 hk hn hb ha hcl) ?_ ?_
 rotate_left
 ·rintro u V' ⟨⟨n,hu,_⟩,_⟩
  cases hu
 rintro u V' ⟨⟨n,hu,hnb⟩,hin⟩
 cases hu
 refine z0A ?_
 exact z0Y rfl ⟨by rw [←hnb];rfl,hin⟩
end
def zEe (fs:List (Bt→Bool)) (a:Bt):List Nat:=(List.range fs.length).filter fun i=>(fs.getD i fun _=>false) a
def zSk (f x:Bt):Bool:=decide (f.length≤x.length)&&(x.take f.length==f)
def zMQ (fs gs:List (Bt→Bool)) (a x f:Bt):Bool:=zSk f x&&(zEe fs a).any fun i=>(gs.getD i fun _=>false) (x.drop f.length)
def atP (ps:List (Bt × Bt)) (fs gs:List (Bt→Bool)) (a x:Bt):List Nat:=(List.range ps.length).filter fun n=>zMQ fs gs a x (ps.getD n ([],[])).1
theorem zDP {p:Nat→Bool} {i:Nat} (h:p i=true):(List.range (i+1)).filter p=(List.range i).filter p++[i]:=by rw [lCS,List.filter_append];simp [h]
theorem z8m {p:Nat→Bool} {i:Nat} (h:p i=false):(List.range (i+1)).filter p=(List.range i).filter p:=by rw [lCS,List.filter_append];simp [h]
theorem z5L (p:Nat→Bool) (i:Nat):((List.range i).filter p).length≤i:=lBM (List.length_filter_le _ _) (by simp)
section
variable {D:Nat→Bt→Bool} {aid mid:Nat} {H:z0B}
theorem LookV.to {X:z0B} {lk pv av bv:AV} {ps:List (Bt × Bt)} {cs ds:List AV} {fs gs:List (Bt→Bool)} (h:LookV D aid mid H lk pv av bv ps cs ds fs gs) (k:z0n D mid H X):LookV D aid mid X lk pv av bv ps cs ds fs gs :=
 { h with fa:=fun i c f a b=>(h.fa i c f a b).to k,fb:=fun i c f a b=>(h.fb i c f a b).to k }
theorem z0n.pres {V X Y:z0B} (h:z0n D mid V X) (hm:mid<V.length) (hp:∀ (j:Nat) (b:Blk),j<V.length→X[j]? =some b→Y[j]? =some b) (hl:X.length≤Y.length):z0n D mid V Y:=by
 obtain ⟨es,c,v,m⟩:=h
 exact ⟨es,c,v,hp _ _ hm m.get,fun id x hn hx=>hp _ _ (lAA.1 hx).1 (m.old id x hn hx),by have:=m.len;omega⟩
theorem z1D.ne {lo:Nat} {X:z0B} {kv:AV} {l:List AV} (h:z1D lo X kv l) {j:Nat} (hj:j<lo):∀ k,kv≠.sl j 0 k 1:=by
 intro k e
 rcases h with ⟨_,h⟩ | ⟨kb,h,_,h2,_⟩
 ·rw [e] at h;cases h
 ·rw [e] at h
  injection h with h
  omega
theorem z1D.ints {lo:Nat} {X:z0B} {kv:AV} {l:List Nat} (h:z1D lo X kv (l.map z0w)) (hm:mid<lo):zGw mid X kv l:=by
 rcases h with ⟨h1,h2⟩ | ⟨kb,h1,h2,h3,_⟩
 ·exact .inl ⟨by simpa using h1,h2⟩
 ·exact .inr ⟨kb,by rw [h1,lAE],h2,by omega⟩
theorem zGw.to {X Y:z0B} {kv:AV} {l:List Nat} (h:zGw mid X kv l) (k:z0n D mid X Y):zGw mid Y kv l:=by
 rcases h with h | ⟨kb,h1,h2,h3⟩
 ·exact .inl h
 ·exact .inr ⟨kb,h1,k.old h3 h2,h3⟩
theorem z2y (l:List Nat):(l.map z0w).all AV.scalar=true:=by
 rw [List.all_map,lAX];intro x _;rfl
theorem zFu {P:Program} {H:z0B} {al:AL} {K:KL} {Qp:AL→AV→z0B→Prop} {os:List IOper} {x y:Arg} {z:AV} {s:Bt} (hx:evL al x=.ptr H.length 0) (hy:evL al y=.str s) (h:VV P os al (H++[.cells [.str s]]) K Qp) :
  VV P (⟨none,.i (.m (.store 1)),[x,y],none,none⟩::os) al (H++[.cells [z]]) K Qp :=
 z0k (.str s) hx hy z0K rfl rfl (by rw [lBC _ _ (lAL _),lBJ];rfl) h
theorem a66 {lk pv av bv:AV} {ps:List (Bt × Bt)} {cs ds:List AV} {fs gs:List (Bt→Bool)} {a x:Bt} (hl:LookV D aid mid H lk pv av bv ps cs ds fs gs) (ha:a.length≤1000000) (hx:x.length≤1000000) (hin:z0n D mid H H) :
  z0D PP 53 [lk,.str a,.str x] H (zNU (fun v H'=>v=zAd ((atP ps fs gs a x).map z0w)∧z0n D mid H H') (fun _ _=>False)):=by
 obtain rfl:=hl.eq
 refine z0D.sealed (n:=H.length) ?_
 refine is53.c3 z0R mixed rfl ?_
 rw [lAK]
 have hml:=hin.lt
 refine z1e (z0c ?_)
 refine z1E (.cptr [pv,av,bv]) rfl rfl ?_
 refine z1E (.str x) rfl rfl ?_
 have x3:(H++[Blk.cells [.cptr [pv,av,bv]]]++[.cells [.str x]])[H.length]? =some (.cells [.cptr [pv,av,bv]]):=z0G z0K
 have x5:(H++[Blk.cells [.cptr [pv,av,bv]]]++[.cells [.str x]])[(H++[Blk.cells [.cptr [pv,av,bv]]]:z0B).length]? =some (.cells [.str x]):=z0K
 have xi:=(hin.app [Blk.cells [.cptr [pv,av,bv]]]).app [.cells [.str x]]
 have hl5:(H++[Blk.cells [.cptr [pv,av,bv]]]:z0B).length=H.length+1:=by simp
 have hlX:(H++[Blk.cells [.cptr [pv,av,bv]]]++[.cells [.str x]]:z0B).length=H.length+2:=by simp
 rw [hl5] at x5
 have hl5':(H++[Blk.cells (AV.cptr [pv,av,bv]).cells]:z0B).length=H.length+1:=by simp
 rw [hl5']
 show VV _ _ _ (H++[Blk.cells [.cptr [pv,av,bv]]]++[.cells [.str x]]) _ _
 generalize (H++[Blk.cells [.cptr [pv,av,bv]]]++[.cells [.str x]]:z0B)=X at *
 have lX:=hl.to xi
 have xx:=xi.self
 have hsa:=lX.sa
 have hsp:=lX.sp
 have hla:=lX.la
 have hnf:=lX.nf
 refine z0A ?_
 refine z0F fs.length (fun i al H'=>∃ kv,al=[(1,.str a),(3,.ptr H.length 0),(5,.ptr (H.length+1) 0),(7,kv),(17,av),(18,.int .i64 fs.length),(19,.int .i64 i)]∧z0n D mid X H'∧z1D X.length H' kv (((List.range i).filter fun i=>(fs.getD i fun _=>false) a).map z0w)) ⟨_,by rw [hla];rfl,xx,.inl ⟨rfl,rfl⟩⟩ ?_
 rintro i _ V hi ⟨kv,rfl,vi,vk⟩
 have e1:decide ((i:Int)<(fs.length:Int))=decide (i<fs.length):=by simp only [lAP];omega
 have v3:=vi.old (by omega) x3
 have v5:=vi.old (by omega) x5
 have hVl:=vi.len
 refine z0A ?_
 rw [e1]
 cases hc:decide (i<fs.length)
 ·simp only [lAC] at hc
  obtain rfl:i=fs.length:=by omega
  have vI:=vk.ints (mid:=mid) (by omega)
  have lV:=lX.to vi
  have vv:=vi.self
  have xiV:=xi.trans vi
  have hnp:=hl.np
  have hol:((List.range fs.length).filter fun i=>(fs.getD i fun _=>false) a).length≤1000000:=lBM (z5L _ _) hnf
  have hop:zEe fs a=(List.range fs.length).filter fun i=>(fs.getD i fun _=>false) a:=rfl
  rw [←hop] at vI hol
  have hmo:∀ i∈zEe fs a,i<gs.length:=fun i hi=>by
   have:=lAZ.1 (lCC.1 hi).1
   rw [←hl.lab];exact this
  have hlen:(ps.map z7B).length=ps.length:=lAE _
  clear vk e1 hc hi x3 x5
  refine z0A ?_
  refine z0F ps.length (fun n al H'=>∃ kw,al=[(3,.ptr H.length 0),(5,.ptr (H.length+1) 0),(7,kv),(10,kw),(35,pv),(36,.int .i64 ps.length),(37,.int .i64 n)]∧z0n D mid V H'∧z1D V.length H' kw (((List.range n).filter fun n=>zMQ fs gs a x (ps.getD n ([],[])).1).map z0w)) ⟨_,by rw [hlen];rfl,vv,.inl ⟨rfl,rfl⟩⟩ ?_
  rintro n _ W hn ⟨kw,rfl,wi,wk⟩
  have e2:decide ((n:Int)<(ps.length:Int))=decide (n<ps.length):=by simp only [lAP];omega
  have w3:=wi.old (by omega) v3
  have w5:=wi.old (by omega) v5
  have hWl:=wi.len
  refine z0A ?_
  rw [e2]
  cases hc2:decide (n<ps.length)
  ·simp only [lAC] at hc2
   obtain rfl:n=ps.length:=by omega
   refine z0A ?_
   refine z0Y rfl (.inl ?_)
   have wm:=xiV.trans wi
   rcases wk with ⟨h1,rfl⟩ | ⟨kb,rfl,k2,k3,k4⟩
   ·exact ⟨_,_,W,rfl,.done _ _,by show AV.nilslice=zAd ((atP ps fs gs a x).map z0w);rw [show (atP ps fs gs a x).map z0w=[] from h1];rfl,wm⟩
   ·refine ⟨_,_,W.set kb .dead,rfl,.step kb _ (by omega) k2 (.base _ _ (.sl 0 _ 1 ((atP ps fs gs a x).map z0w) rfl (fun y hy=>by
     obtain ⟨m,_,rfl⟩:=lA4.1 hy;rfl) (by rw [z1B (fun y hy=>by
     obtain ⟨m,_,rfl⟩:=lA4.1 hy;rfl),lBL,lCA];exact (lAW).symm) (by simp [atP]))) (.done _ _),?_,wm.own (by omega) (by omega)⟩
    unfold zAd
    rw [if_neg]
    intro e
    exact k4 (lC2.1 e)
  simp only [lAD] at hc2
  obtain ⟨pr,hpr⟩:=z0M (l:=ps) (i:=n) hc2
  obtain ⟨f,tt⟩:=pr
  have hgd:(ps.getD n ([],[])).1=f:=by rw [z1Z hpr]
  have hpv:(ps.map z7B)[n]? =some (.agg [.str f,.str tt]):=by rw [lAM,hpr];rfl
  have hfl:=hl.pl _ (lAF hpr)
  simp only at hfl
  refine z0A ?_
  refine z1a rfl rfl rfl rfl rfl rfl ?_
  have y12:(W++[Blk.cells [.str f,.str tt]])[W.length]? =some (.cells [.str f,.str tt]):=z0K
  have yi:=wi.app [Blk.cells [.str f,.str tt]]
  have yk:z1D V.length (W++[Blk.cells [.str f,.str tt]]) kw _:=wk.mono fun j b _ h=>z0G h
  have y3:=z0G (G:=[Blk.cells [.str f,.str tt]]) w3
  have y5:=z0G (G:=[Blk.cells [.str f,.str tt]]) w5
  have hyl:(W++[Blk.cells [.str f,.str tt]]:z0B).length=W.length+1:=by simp
  generalize (W++[Blk.cells [.str f,.str tt]]:z0B)=Y at *
  have hlw:V.length≤W.length:=hWl
  refine z0A ?_
  refine z2S (v:=.ptr W.length 0) rfl ?_
  refine z0A ?_
  refine zFu rfl rfl ?_
  have z13:(Y++[Blk.cells [.str f]])[Y.length]? =some (.cells [.str f]):=z0K
  have zi:=yi.app [Blk.cells [.str f]]
  have zk:z1D V.length (Y++[Blk.cells [.str f]]) kw _:=yk.mono fun j b _ h=>z0G h
  have z3:=z0G (G:=[Blk.cells [.str f]]) y3
  have z5:=z0G (G:=[Blk.cells [.str f]]) y5
  have hzl:(Y++[Blk.cells [.str f]]:z0B).length=Y.length+1:=by simp
  generalize (Y++[Blk.cells [.str f]]:z0B)=Z at *
  have zz:=zi.self
  cases hlt:decide ((x.length:Int)<(f.length:Int))
  rotate_left
  ·have hno:zMQ fs gs a x (ps.getD n ([],[])).1=false:=by
    rw [hgd]
    simp only [lAD] at hlt
    have:¬ f.length≤x.length:=by omega
    simp [zMQ,zSk,this]
   refine z0A ?_
   exact ⟨hc2,kw,rfl,zi,by rw [z8m hno];exact zk⟩
  have hle:f.length≤x.length:=by
   simp only [lAC] at hlt;omega
  cases heq:(x.take f.length==f)
  ·have hq:(!(x.take f.length==f))=true:=by rw [heq];rfl
   have hno:zMQ fs gs a x (ps.getD n ([],[])).1=false:=by
    rw [hgd]
    simp [zMQ,zSk,heq]
   refine z0A ?_
   exact ⟨hc2,kw,rfl,zi,by rw [z8m hno];exact zk⟩
  have hq:(!(x.take f.length==f))=false:=by rw [heq];rfl
  have hhit:zMQ fs gs a x (ps.getD n ([],[])).1=(zEe fs a).any fun i=>(gs.getD i fun _=>false) (x.drop f.length):=by
   rw [hgd]
   simp [zMQ,zSk,heq,hle]
  have lZ:=lV.to zi
  have kI:zGw mid Z kv (zEe fs a):=vI.to zi
  have k114:=a114 (caps:=[.ptr H.length 0,.ptr (H.length+1) 0,.ptr Y.length 0]) (g:=96) (p:=fun i=>(gs.getD i fun _=>false) (x.drop f.length)) kI hol zYE.hasBody zz (fun H' v hin' hv =>
   a115 (lZ.to hin') (hin'.old (by omega) z3) (hin'.old (by omega) z5) (hin'.old (by omega) z13) (hmo v hv) hx hle (by omega) (by omega) (by omega) hin'.self)
  rw [←hhit] at k114
  refine z0A ?_
  refine z6h (vs:=[.ptr H.length 0,.ptr (H.length+1) 0,.ptr Y.length 0]) rfl ?_
  refine z0L rfl k114 ?_ ?_
  rotate_left
  ·rintro u V' ⟨hu,_⟩
   cases hu
  rintro u U ⟨hu,hin1⟩
  cases hu
  have ui:=zi.trans hin1
  have uk:z1D V.length U kw _:=zk.mono fun j b hj h=>hin1.old (by omega) h
  cases hb:zMQ fs gs a x (ps.getD n ([],[])).1
  ·refine z0A ?_
   exact ⟨hc2,kw,rfl,ui,by rw [z8m hb];exact uk⟩
  ·refine z0A ?_
   refine z0Z (out:=[z0w n]) rfl ?_
   have hfl2:=z5L (fun n=>zMQ fs gs a x (ps.getD n ([],[])).1) n
   have hU:=ui.len
   refine zAF (kv:=kw) rfl uk rfl rfl (z2y _) (by rw [lAE];omega) hU ?_
   intro kv' H' hko hksc hpres hlen'
   have ui2:=ui.pres (by omega) (fun j b hj h=>hpres j b (uk.ne hj) h) hlen'
   refine z0A ?_
   exact ⟨hc2,kv',rfl,ui2,by rw [zDP hb,lBP];exact hko⟩
 ·simp only [lAD] at hc
  obtain ⟨f,hf⟩:=z0M (l:=fs) (i:=i) hc
  obtain ⟨c,hcc⟩:=z0M (l:=cs) (i:=i) (by omega)
  obtain ⟨g,caps,rfl,hbd,hask⟩:=lX.fa i c f hcc hf
  have hgd:(fs.getD i fun _=>false)=f:=z1Z hf
  refine z0A ?_
  refine z2n rfl hbd (hask V a ha vi) ?_ ?_
  rotate_left
  ·rintro u V' ⟨hu,_⟩
   cases hu
  rintro u V1 ⟨hu,hin1⟩
  cases hu
  have vi1:=vi.trans hin1
  have vk1:z1D X.length V1 kv _:=vk.mono fun j b hj h=>hin1.old (by omega) h
  cases hb:f a
  ·refine z0A ?_
   exact ⟨hc,kv,rfl,vi1,by rw [z8m (by rw [hgd];exact hb)];exact vk1⟩
  ·refine z0A ?_
   refine z0Z (out:=[z0w i]) rfl ?_
   have hfl:=z5L (fun i=>(fs.getD i fun _=>false) a) i
   have hV1:=vi1.len
   refine zAF (kv:=kv) rfl vk1 rfl rfl (z2y _) (by rw [lAE];omega) hV1 ?_
   intro kv' H' hko hksc hpres hlen'
   have vi2:=vi1.pres (by omega) (fun j b hj h=>hpres j b (vk1.ne hj) h) hlen'
   refine z0A ?_
   exact ⟨hc,kv',rfl,vi2,by rw [zDP (by rw [hgd];exact hb),lBP];exact hko⟩
end
def z3v (sz lo:Nat) (H':z0B) (v:AV) (l:List AV):Prop :=
 (∀ x∈l,x.cells.length=sz)∧((l=[]∧v=.nilslice)∨∃ id,v=.sl id 0 l.length sz∧H'[id]? =some (.cells (z0j l))∧lo≤id∧l≠[])
theorem z3v.nil {sz lo:Nat} {H':z0B}:z3v sz lo H' .nilslice []:=⟨by simp,.inl ⟨rfl,rfl⟩⟩
theorem z3v.mono {sz lo:Nat} {H' K:z0B} {v:AV} {l:List AV} (h:z3v sz lo H' v l) (hk:∀ (j:Nat) (b:Blk),lo≤j→H'[j]? =some b→K[j]? =some b):z3v sz lo K v l:=by
 obtain ⟨h0,h⟩:=h
 refine ⟨h0,?_⟩
 rcases h with h | ⟨id,a,b,c,d⟩
 ·exact .inl h
 ·exact .inr ⟨id,a,hk _ _ c b,c,d⟩
theorem z3v.app {sz lo:Nat} {H':z0B} {v:AV} {l:List AV} (h:z3v sz lo H' v l) (G:z0B):z3v sz lo (H'++G) v l:=h.mono fun _ _ _ h=>z0G h
theorem z5x (l m:List AV):z0j (l++m)=z0j l++z0j m:=by simp [z0j]
section steps
variable {P:Program} {H G:z0B} {al:AL} {K:KL} {Qp:AL→AV→z0B→Prop} {os:List IOper} {d:Nat} {x y z:Arg}
theorem zNw {sz lo bytes:Nat} {v:AV} {l:List AV} {cs:List AV} {X:z0B} (hx:evL al x=v) (ho:z3v sz lo X v l) (hy:evL al y=.sl X.length 0 1 sz) (hcs:cs.length=sz) (hsc:cs.all AV.scalar=true)
  (hb:(l.length+1)*bytes≤140737488355328) (hlo:lo≤X.length)
  (h:∀ v' H',z3v sz lo H' v' (l++[.agg cs])→(∀ (j:Nat) (b:Blk),j<lo→X[j]? =some b→H'[j]? =some b)→X.length≤H'.length→VV P os ((d,v')::al) H' K Qp) :
  VV P (⟨some d,.i (.m (.append sz bytes)),[x,y],none,none⟩::os) al (X++[.cells cs]) K Qp:=by
 obtain ⟨h0,ho⟩:=ho
 have hel:∀ x∈l++[.agg cs],x.cells.length=sz:=by
  intro x hx
  rcases lBF.1 hx with hx | hx
  ·exact h0 x hx
  ·rw [lA1] at hx;subst hx;exact hcs
 rcases ho with ⟨rfl,rfl⟩ | ⟨id,rfl,h3,h4,h5⟩
 ·refine z3z (m:=1) (ys:=cs) hx (by rw [hy];exact z1y (by omega)) (by omega) hsc (by simpa using hb) ?_
  refine h _ _ ⟨hel,.inr ⟨_,rfl,?_,by rw [lAH];omega,by simp⟩⟩ (fun j b hj hb=>z0G (z0G hb)) (by rw [lAH,lAH];omega)
  rw [zDE]
  simp [z0j,AV.cells]
 ·have hlt:=(lAA.1 h3).1
  have hfl:(z0j l).length=l.length*sz:=z0y h0
  refine z4L (m:=1) (ys:=cs) hx (z0G h3) (by omega) (by rw [hy];exact z1y (by omega)) hsc hb ?_
  refine h _ _ ⟨hel,.inr ⟨(X++[Blk.cells cs]).length,by rw [show (l++[AV.agg cs]).length=l.length+1 by simp],?_,by rw [lAH];omega,by simp⟩⟩ (fun j b hj hb=>?_) (by rw [lAH,lCK,lAH];omega)
  ·rw [lAJ (by simp)]
   simp only [lCK,lBJ,lA0]
   rw [lBL,←hfl,lAW,z5x]
   simp [z0j,AV.cells]
  ·have:=(lAA.1 hb).1
   rw [lAN (by simp;omega),lA7,if_neg (by omega)]
   exact z0G hb
end steps
def z3n (p:Nat × Nat):AV:=.agg [.int .i64 p.1,.int .i64 p.2]
def z8M (ps:List (Bt × Bt)) (fs gs:List (Bt→Bool)) (x:Bt) (p:Nat):List (Nat × Nat):=(atP ps fs gs (x.take p) (x.drop p)).map fun n=>(n,p+(ps.getD n ([],[])).1.length)
def zQs (ok:Nat→Prop) (H:z0B) (kv:AV) (l:List (Nat × Nat)):Prop:=(l=[]∧kv=.nilslice)∨∃ kb,kv=.sl kb 0 l.length 2∧H[kb]? =some (.cells (z0j (l.map z3n)))∧ok kb∧l≠[]
theorem zQs.mono {ok ok':Nat→Prop} {X Y:z0B} {kv:AV} {l:List (Nat × Nat)} (h:zQs ok X kv l) (hk:∀ (j:Nat) (b:Blk),ok j→X[j]? =some b→Y[j]? =some b) (ho:∀ j,ok j→ok' j):zQs ok' Y kv l:=by
 rcases h with h | ⟨kb,h1,h2,h3⟩
 ·exact .inl h
 ·exact .inr ⟨kb,h1,hk _ _ h3.1 h2,ho _ h3.1,h3.2⟩
theorem z3v.row {lo:Nat} {X:z0B} {kv:AV} {l:List (Nat × Nat)} {ok:Nat→Prop} (h:z3v 2 lo X kv (l.map z3n)) (ho:∀ j,lo≤j→j<X.length→ok j):zQs ok X kv l:=by
 obtain ⟨_,h⟩:=h
 rcases h with ⟨h1,h2⟩ | ⟨id,h1,h2,h3,h4⟩
 ·exact .inl ⟨by simpa using h1,h2⟩
 ·exact .inr ⟨id,by rw [h1,lAE],h2,ho _ h3 (lAA.1 h2).1,by simpa using h4⟩
theorem z3v.shape {sz lo:Nat} {X:z0B} {kv:AV} {l:List AV} (h:z3v sz lo X kv l):kv=.nilslice∨∃ kb k,kv=.sl kb 0 k sz:=by
 rcases h.2 with ⟨_,h⟩ | ⟨kb,h,_⟩
 ·exact .inl h
 ·exact .inr ⟨kb,_,h⟩
theorem z3v.ne {sz lo:Nat} {X:z0B} {kv:AV} {l:List AV} (h:z3v sz lo X kv l) {j:Nat} (hj:j<lo):∀ k,kv≠.sl j 0 k sz:=by
 intro k e
 rcases h.2 with ⟨_,h⟩ | ⟨kb,h,_,h2,_⟩
 ·rw [e] at h;cases h
 ·rw [e] at h
  injection h with h
  omega
section steps
variable {P:Program} {H:z0B} {al:AL} {K:KL} {Qp:AL→AV→z0B→Prop} {os:List IOper} {d:Nat} {x y:Arg}
theorem zRB {id p sz:Nat} {kv:AV} {cs:List AV} (hs:kv=.nilslice∨∃ kb k,kv=.sl kb 0 k sz) (hx:evL al x=.ptr id (0+p*1)) (hy:evL al y=kv) (hg:H[id]? =some (.cells cs)) (hp:p<cs.length) (h:VV P os al (H.set id (.cells (cs.set p kv))) K Qp) :
  VV P (⟨none,.i (.m (.store 1)),[x,y],none,none⟩::os) al H K Qp:=by
 have e:∀ v:AV,z4m cs (0+p*1) [v]=cs.set p v:=by
  intro v
  rw [lBN,lCA]
  unfold z4m
  rw [lDB,if_pos hp]
  simp
 have hb:decide (0+p*1+1≤cs.length)=true:=by rw [lAD];omega
 rcases hs with rfl | ⟨kb,k,rfl⟩
 ·exact z0k .nilslice hx hy hg (by simp only [AV.shaped,AV.cells,lB7,hb];rfl) (e _) rfl h
 ·exact z0k (.sl kb 0 k sz) hx hy hg (by simp only [AV.shaped,AV.cells,lB7,hb];rfl) (e _) rfl h
theorem zSt {n:Nat} (hx:evL al x=.int .i64 n) (hn:n≤1000000) (h:VV P os ((d,.sl H.length 0 n 1)::al) (H++[.cells (List.replicate n .nilslice)]) K Qp) :
  VV P (⟨some d,.i (.m (.makeSlice 1 24 [.nilslice])),[x,x],none,none⟩::os) al H K Qp:=by
 refine z8X ?_ h
 have e:z1J n [AV.nilslice]=List.replicate n .nilslice:=by
  clear hn hx h
  induction n with
  | zero=>rfl
  | succ n ih =>
   have:z1J (n+1) [AV.nilslice]=AV.nilslice::z1J n [AV.nilslice]:=rfl
   rw [this,ih,lD3]
 simp only [z5a,z6m,z0u,hx]
 rw [if_pos ⟨by omega,by omega,by omega,by omega⟩]
 unfold put;rw [if_neg (by omega),lDX,e]
end steps
section
variable {D:Nat→Bt→Bool} {aid mid:Nat} {H:z0B}
def zZf (ok:Nat→Prop) (H':z0B) (v:AV) (n:Nat) (rows:Nat→List (Nat × Nat)):Prop :=
 ∃ ob kvs,v=.sl ob 0 n 1∧H'[ob]? =some (.cells kvs)∧kvs.length=n∧ok ob∧∀ q,q<n→zQs ok H' (kvs.getD q .top) (rows q)
theorem a28 {lk pv av bv:AV} {ps:List (Bt × Bt)} {cs ds:List AV} {fs gs:List (Bt→Bool)} {x:Bt} (hl:LookV D aid mid H lk pv av bv ps cs ds fs gs) (hx:x.length≤1000000) (hin:z0n D mid H H) :
  z0D PP 21 [lk,.str x] H (fun r H'=>∃ v,r=.ret v∧z0n D mid H H'∧zZf (fun j=>H.length≤j) H' v x.length (z8M ps fs gs x)):=by
 obtain rfl:=hl.eq
 refine is21.c2 z0R mixed rfl ?_
 rw [lAK]
 have hml:=hin.lt
 refine z0A ?_
 refine zSt rfl hx ?_
 have x1:(H++[Blk.cells (List.replicate x.length .nilslice)])[H.length]? =some (.cells (List.replicate x.length .nilslice)):=z0K
 have xi:=hin.app [Blk.cells (List.replicate x.length .nilslice)]
 have hXl:(H++[Blk.cells (List.replicate x.length .nilslice)]:z0B).length=H.length+1:=by simp
 generalize (H++[Blk.cells (List.replicate x.length .nilslice)]:z0B)=X at *
 refine z0A ?_
 refine z0F x.length (fun p al H'=>al=[(0,.cptr [pv,av,bv]),(1,.str x),(5,.sl H.length 0 x.length 1),(13,.int .i64 x.length),(14,.int .i64 p)]∧z0n D mid H H'∧H.length+1≤H'.length∧∃ kvs,H'[H.length]? =some (.cells kvs)∧kvs.length=x.length∧∀ q,q<x.length→zQs (fun j=>H.length<j∧j<H'.length) H' (kvs.getD q .top) (if q<p then z8M ps fs gs x q else [])) ⟨rfl,xi,by omega,_,x1,by simp,fun q hq=>.inl ⟨by simp,by rw [lAB,List.getElem?_replicate,if_pos hq];rfl⟩⟩ ?_
 clear x1 xi hXl X
 rintro p _ V hp ⟨rfl,vi,hVl,kvs,vk,hkl,hrows⟩
 have e1:decide ((p:Int)<(x.length:Int))=decide (p<x.length):=by simp only [lAP];omega
 refine z0A ?_
 rw [e1]
 cases hc:decide (p<x.length)
 ·simp only [lAC] at hc
  refine z0A ?_
  refine z0Y rfl ⟨_,rfl,vi,H.length,kvs,rfl,vk,hkl,lAL _,fun q hq=>?_⟩
  have:=hrows q hq
  rw [if_pos (by omega)] at this
  exact this.mono (fun _ _ _ h=>h) (fun j h=>by omega)
 simp only [lAD] at hc
 have lV:=hl.to vi
 have vv:=vi.self
 refine z0A ?_
 refine z1f (z2h [mid]) ?_
 refine z0A ?_
 refine z5B (R:=zNU (fun v H'=>v=zAd ((atP ps fs gs (x.take p) (x.drop p)).map z0w)∧z0n D mid V H') (fun _ _=>False)) rfl (lAL _) rfl (a66 lV (by simp;omega) (by simp;omega) vv) ?_ ?_
 rotate_left
 ·rintro u V' (⟨v,hu,_⟩ | ⟨p,_,hf⟩)
  ·cases hu
  ·exact hf
 rintro u V1 (⟨v,hu,hv,hin1⟩ | ⟨p,hu,_⟩)
 rotate_left
 ·cases hu
 rw [hv] at hu
 cases hu
 refine ⟨hin1.mod,?_⟩
 have hsl:=zLN ((atP ps fs gs (x.take p) (x.drop p)).map z0w)
 generalize zAd ((atP ps fs gs (x.take p) (x.drop p)).map z0w)=kl at *
 have hrow:z8M ps fs gs x p=(atP ps fs gs (x.take p) (x.drop p)).map fun n=>(n,p+(ps.getD n ([],[])).1.length):=rfl
 have hLn:(atP ps fs gs (x.take p) (x.drop p)).length≤ps.length:=z5L _ _
 have hLm:∀ n∈atP ps fs gs (x.take p) (x.drop p),n<ps.length:=fun n hn=>lAZ.1 (lCC.1 hn).1
 generalize atP ps fs gs (x.take p) (x.drop p)=L at *
 have hV1:=hin1.len
 have vi1:=vi.trans hin1
 have k1:=hin1.old (by omega) vk
 have hLl:(L.map z0w).length=L.length:=lAE _
 have hnp:=hl.np
 have hsp:=hl.sp
 refine z0A ?_
 refine z0F L.length (fun m al H'=>al=[(0,.cptr [pv,av,bv]),(1,.str x),(5,.sl H.length 0 x.length 1),(6,.int .i64 p),(13,.int .i64 x.length),(14,.int .i64 p),(24,kl),(25,.int .i64 L.length),(26,.int .i64 m)]∧z0n D mid H H'∧V1.length≤H'.length∧(∀ (j:Nat) (b:Blk),H.length<j→j<V1.length→V1[j]? =some b→H'[j]? =some b)∧∃ kw,H'[H.length]? =some (.cells (kvs.set p kw))∧z3v 2 V1.length H' kw (((L.take m).map fun n=>(n,p+(ps.getD n ([],[])).1.length)).map z3n)) ⟨by rw [hLl];rfl,vi1,lAL _,fun _ _ _ _ h=>h,.nilslice,?_,?_⟩ ?_
 ·rw [k1]
  have h0:=hrows p hc
  rw [if_neg (by omega)] at h0
  rcases h0 with ⟨_,h0⟩ | ⟨kb,_,_,_,h⟩
  ·congr 2
   rw [←h0]
   apply lCD
   intro q
   rw [lA7]
   split
   ·rename_i e
    subst e
    rw [if_pos (by omega),lAB,lAG (by omega)];rfl
   ·rfl
  ·exact absurd rfl h
 ·exact z3v.nil
 rintro m _ W hm ⟨rfl,wi,hWl,hold,kw,wk,wo⟩
 have e2:decide ((m:Int)<(L.length:Int))=decide (m<L.length):=by simp only [lAP];omega
 refine z0A ?_
 rw [e2]
 cases hc2:decide (m<L.length)
 ·simp only [lAC] at hc2
  have:L.take m=L:=lAS (by omega)
  rw [this,←hrow] at wo
  refine z0A ?_
  refine ⟨hc,rfl,wi,by omega,_,wk,by simpa using hkl,fun q hq=>?_⟩
  by_cases hqp:q=p
  ·subst hqp
   rw [if_pos (by omega)]
   have:(kvs.set q kw).getD q .top=kw:=by rw [lAB,lAU (by omega)];rfl
   rw [this]
   exact wo.row fun j h1 h2=>⟨by omega,h2⟩
  ·have:(kvs.set p kw).getD q .top=kvs.getD q .top:=by rw [lAB,lCE (fun e=>hqp e.symm),←lAB]
   rw [this]
   have h0:=hrows q hq
   have e3:(q<p)=(q<p+1):=by apply propext;omega
   simp only [e3] at h0
   exact h0.mono (fun j b hj h=>hold j b hj.1 (by omega) (hin1.old (by omega) h)) (fun j hj=>⟨hj.1,by omega⟩)
 simp only [lAD] at hc2
 obtain ⟨n,hn⟩:=z0M (l:=L) (i:=m) hc2
 have hnl:=hLm n (lAF hn)
 obtain ⟨⟨f,tt⟩,hpr⟩:=z0M (l:=ps) (i:=n) hnl
 have hfl:=hl.pl _ (lAF hpr)
 simp only at hfl
 have hgd:(ps.getD n ([],[])).1=f:=by rw [z1Z hpr]
 have hpv:(ps.map z7B)[n]? =some (.agg [.str f,.str tt]):=by rw [lAM,hpr];rfl
 have hnv:(L.map z0w)[m]? =some (z0w n):=by rw [lAM,hn];rfl
 have htk:((L.take (m+1)).map fun n=>(n,p+(ps.getD n ([],[])).1.length)).map z3n=((L.take m).map fun n=>(n,p+(ps.getD n ([],[])).1.length)).map z3n++[.agg [.int .i64 n,.int .i64 (p+f.length:Nat)]]:=by
  rw [lBA,hn]
  simp only [Option.toList,lBP,lA6,lCZ,hgd];rfl
 refine z0A ?_
 refine z3k (z2r [H.length]) ?_
 refine z0A ?_
 refine z2a (v:=kw) rfl wk ?_ ?_
 ·show (kvs.set p kw)[0+p*1]? =_
  rw [lBN,lCA,lAU (by omega)]
 refine z0A ?_
 refine z2S (v:=.cptr [.str f,.str tt]) rfl ?_
 refine z0A ?_
 refine z2A rfl rfl (by omega) ?_
 refine z0A ?_
 refine z1w (out:=[.int .i64 n,.int .i64 (p+f.length:Nat)]) rfl rfl ?_
 refine z0A ?_
 refine zDm rfl rfl (lAL _) ?_
 refine z0Z (out:=[.int .i64 n,.int .i64 (p+f.length:Nat)]) rfl ?_
 refine z1b z2v ?_
 refine zDm rfl rfl (by simp) ?_
 have hWl2:=(lAA.1 wk).1
 refine zNw (v:=kw) rfl wo rfl rfl rfl (by simp;omega) hWl ?_
 intro kv' H' hko hpres hlen'
 rw [←htk] at hko
 have u0:=hpres _ _ (by omega) wk
 have uold:∀ (j:Nat) (b:Blk),H.length<j→j<V1.length→V1[j]? =some b→H'[j]? =some b:=fun j b h1 h2 h3=>hpres j b h2 (hold j b h1 h2 h3)
 have ui:z0n D mid H H':=by
  obtain ⟨es,c,hv',mm⟩:=wi
  exact ⟨es,c,hv',hpres _ _ (by omega) mm.get,fun id y hne hy=>hpres _ _ (by have:=(lAA.1 hy).1;omega) (mm.old id y hne hy),by have:=mm.len;omega⟩
 refine z1b (z1K fun j hj b hb'=>?_) ?_
 ·simp only [lA1] at hj
  subst hj
  rw [lAN hWl2] at hb'
  exact hpres _ _ (by omega) hb'
 refine z0A ?_
 refine zQN rfl rfl rfl (by omega) ?_
 refine zRB hko.shape rfl rfl u0 (by simp;omega) ?_
 refine z3y ?_
 refine z0A ?_
 refine ⟨hc2,rfl,ui.own (lAL _) (by omega),by simp;omega,fun j b h1 h2 h3=>z0J (uold j b h1 h2 h3) (by omega),kv',?_,hko.mono fun j b h1 h2=>z0J h2 (by omega)⟩
 rw [lAU (lAA.1 u0).1,List.set_set]
end
def fv (pr:Int) (te:Nat):AV:=.agg [.int .i64 pr,.int .i64 te]
theorem z8j:∀ l:List (Nat × Nat),(z0j (l.map z3n)).length=l.length*2
 | []=>rfl
 | p::l=>by
  have:=z8j l
  simp only [lA6,z0j,lBU,lAH] at this ⊢
  rw [this];simp [z3n,AV.cells];omega
def z4A (l:List Bt) (i:Nat):Bool:=!z4Q (l.getD i [])||(decide (0<i) && !(decide (l.getD (i-1) []<l.getD i [])))
def zKd (l:List Bt):Int:=if decide ((l.length:Int)>40)||l.any z1Y then 3 else if (List.range l.length).any (z4A l) then 1 else 0
theorem a50 {lv:AV} {l:List Bt} (hl:Sl 1 lv (l.map .str)) (hw:okW l) (H:z0B):z0D PP 39 [lv] H (z1A H (.int .i64 (zKd l))):=by
 have k73:=c72 hl hw.1 (fs:=[]) (cs:=[]) b73 (p:=z1Y) (fun s _ H=>c73 s H)
 refine z0D.gives (zYM.c1 z0R mixed rfl ?_)
 rw [lAK]
 have hlen:(l.map AV.str).length=l.length:=lAE _
 have h1:=hw.1
 unfold zKd
 refine z0A ?_
 rw [hlen]
 cases h40:decide ((l.length:Int)>40)
 rotate_left
 ·refine z0A ?_
  exact z0Y rfl (z0s (z0N.int _ _))
 refine z0A ?_
 refine z0H rfl (k73 _) ?_
 cases hlg:l.any z1Y
 rotate_left
 ·refine z0A ?_
  exact z0Y rfl (z0s (z0N.int _ _))
 simp only [Bool.or_self,lAV,if_false]
 refine z0A ?_
 refine z0F l.length (fun i al H'=>al=[(0,lv),(12,lv),(13,.int .i64 l.length),(14,.int .i64 i)]∧H'=H∧(List.range i).any (z4A l)=false) ⟨by rw [hlen];rfl,rfl,rfl⟩ ?_
 rintro i _ V hi ⟨rfl,rfl,v1⟩
 have e1:decide ((i:Int)<(l.length:Int))=decide (i<l.length):=by simp only [lAP];omega
 refine z0A ?_
 rw [e1]
 cases hc:decide (i<l.length)
 ·simp only [lAC] at hc
  obtain rfl:i=l.length:=by omega
  rw [v1]
  refine z0A ?_
  exact z0Y rfl (z0s (z0N.int _ _))
 simp only [lAD] at hc
 obtain ⟨s,hs⟩:=z0M (l:=l) (i:=i) hc
 have hsv:(l.map AV.str)[i]? =some (.str s):=by rw [lAM,hs];rfl
 have hok:=hw.2 s (lAF hs)
 have hgd:l.getD i []=s:=z1Z hs
 have hbd:z4A l i=(!z4Q s||(decide (0<i) && !(decide (l.getD (i-1) []<s)))):=by unfold z4A;rw [hgd]
 refine z0A ?_
 refine z0H rfl (c75 s hok _) ?_
 cases hsy:z4Q s
 ·have hb:z4A l i=true:=by rw [hbd,hsy];rfl
  rw [z4U hc hb]
  refine z0A ?_
  exact z0Y rfl (z0s (z0N.int _ _))
 have e2:decide ((i:Int)>0)=decide (0<i):=by simp only [lAP];omega
 cases h0:decide (0<i)
 ·have hb:z4A l i=false:=by rw [hbd,hsy,h0];rfl
  rw [h0] at e2
  refine z0A ?_
  exact ⟨hc,rfl,rfl,z3F v1 hb⟩
 simp only [lAD] at h0
 have h0':decide (0<i)=true:=decide_eq_true h0
 rw [h0'] at e2
 obtain ⟨c,hci⟩:=z0M (l:=l) (i:=i-1) (by omega)
 have hcv:(l.map AV.str)[i-1]? =some (.str c):=by rw [lAM,hci];rfl
 have hgc:l.getD (i-1) []=c:=z1Z hci
 have hbd2:z4A l i = !(decide (c<s)):=by rw [hbd,hsy,h0',hgc];rfl
 have es:((i:Int)-1)=((i-1:Nat):Int):=by omega
 refine z0A ?_
 refine z5j rfl rfl (by omega) (by omega) ?_
 rw [es]
 refine z0A ?_
 refine z2S (v:=.bool (!(Op.bytesLess c s))) rfl ?_
 rw [Go.Proofs.bytesLess_eq,←hbd2]
 cases hb:z4A l i
 ·refine z0A ?_
  exact ⟨hc,rfl,rfl,z3F v1 hb⟩
 ·rw [z4U hc hb]
  refine z0A ?_
  exact z0Y rfl (z0s (z0N.int _ _))
theorem a131 {lv:AV} {l:List Bt} {t:Bt} (hl:Sl 1 lv (l.map .str)) (hn:l.length≤1000000) (H:z0B):z0D PP 110 [.str t,lv] H (z1A H (.bool (decide (t∈l)))):=by
 refine z0D.gives (zUZ.c2 z0R mixed rfl ?_)
 rw [lAK]
 have hlen:(l.map AV.str).length=l.length:=lAE _
 refine z0A ?_
 refine z0F l.length (fun i al H'=>al=[(0,.str t),(1,lv),(5,.int .i64 i)]∧H'=H∧t∉l.take i) ⟨rfl,rfl,by simp⟩ ?_
 rintro i _ V hi ⟨rfl,rfl,v1⟩
 have e1:decide ((i:Int)<(l.length:Int))=decide (i<l.length):=by simp only [lAP];omega
 refine z0A ?_
 rw [hlen,e1]
 cases hc:decide (i<l.length)
 ·simp only [lAC] at hc
  have:l.take i=l:=lAS (by omega)
  rw [this] at v1
  rw [decide_eq_false v1]
  refine z0A ?_
  exact z0Y rfl (z0s (z0N.bool _))
 simp only [lAD] at hc
 obtain ⟨c,hci⟩:=z0M (l:=l) (i:=i) hc
 have hcv:(l.map AV.str)[i]? =some (.str c):=by rw [lAM,hci];rfl
 cases hct:(c==t)
 ·refine z0A ?_
  refine ⟨by omega,rfl,rfl,?_⟩
  rw [lBA,hci]
  simp only [Option.toList,lBF,lA1,not_or]
  exact ⟨v1,fun e=>by subst e;simp at hct⟩
 ·have he:c=t:=by simpa using hct
  have hm:t∈l:=by rw [←he];exact lAF hci
  rw [decide_eq_true hm]
  refine z0A ?_
  exact z0Y rfl (z0s (z0N.bool _))
theorem a72 {lv wv:AV} {l w:List Bt} (hl:Sl 1 lv (l.map .str)) (hw:Sl 1 wv (w.map .str)) (hn:l.length≤1000000) (hwn:w.length≤1000000) (H:z0B):z0D PP 62 [wv,lv] H (z1A H (.bool (w.all fun t=>decide (t∈l)))):=by
 refine z0D.gives (is62.c2 z0R mixed rfl ?_)
 rw [lAK]
 have hlen:(w.map AV.str).length=w.length:=lAE _
 refine z0A ?_
 refine z0F w.length (fun i al H'=>al=[(0,wv),(1,lv),(5,.int .i64 i)]∧H'=H∧((w.take i).all fun t=>decide (t∈l))=true) ⟨rfl,rfl,by simp⟩ ?_
 rintro i _ V hi ⟨rfl,rfl,v1⟩
 have e1:decide ((i:Int)<(w.length:Int))=decide (i<w.length):=by simp only [lAP];omega
 refine z0A ?_
 rw [hlen,e1]
 cases hc:decide (i<w.length)
 ·simp only [lAC] at hc
  have:w.take i=w:=lAS (by omega)
  rw [this] at v1
  rw [v1]
  refine z0A ?_
  exact z0Y rfl (z0s (z0N.bool _))
 simp only [lAD] at hc
 obtain ⟨t,ht⟩:=z0M (l:=w) (i:=i) hc
 have htv:(w.map AV.str)[i]? =some (.str t):=by rw [lAM,ht];rfl
 refine z0A ?_
 refine z0H rfl (a131 hl hn _) ?_
 cases hm:decide (t∈l)
 ·have:(w.all fun t=>decide (t∈l))=false:=by
   rw [List.all_eq_false]
   exact ⟨t,lAF ht,by simp [hm]⟩
  rw [this]
  refine z0A ?_
  exact z0Y rfl (z0s (z0N.bool _))
 ·refine z0A ?_
  refine ⟨by omega,rfl,rfl,?_⟩
  rw [lBA,List.all_append,v1,ht]
  simp [hm]
def zBr (l:List Bt) (i:Nat):Bool:=!(decide (l.getD (i-1) []<l.getD i []))
def z8z (l:List Bt):Bool:=!((List.range l.length).any fun i=>decide (0<i)&&zBr l i)
theorem a130 {lv:AV} {l:List Bt} (hl:Sl 1 lv (l.map .str)) (hn:l.length≤1000000) (H:z0B):z0D PP 109 [lv] H (z1A H (.bool (z8z l))):=by
 refine z0D.gives (zUa.c1 z0R mixed rfl ?_)
 rw [lAK]
 have hlen:(l.map AV.str).length=l.length:=lAE _
 unfold z8z
 refine z0A ?_
 refine z0F l.length (fun i al H'=>al=[(0,lv),(3,.int .i64 (i+1:Nat))]∧H'=H∧((List.range (i+1)).any fun i=>decide (0<i)&&zBr l i)=false) ⟨rfl,rfl,rfl⟩ ?_
 rintro i _ V hi ⟨rfl,rfl,v1⟩
 have e1:decide (((i+1:Nat):Int)<(l.length:Int))=decide (i+1<l.length):=by simp only [lAP];omega
 refine z0A ?_
 rw [hlen,e1]
 cases hc:decide (i+1<l.length)
 ·simp only [lAC] at hc
  have hz:((List.range l.length).any fun i=>decide (0<i)&&zBr l i)=false:=by
   rw [lBV] at v1 ⊢
   intro k hk
   exact v1 k (lAZ.2 (by have:=lAZ.1 hk;omega))
  rw [hz]
  refine z0A ?_
  exact z0Y rfl (z0s (z0N.bool _))
 simp only [lAD] at hc
 obtain ⟨s,hs⟩:=z0M (l:=l) (i:=i+1) hc
 obtain ⟨c,hci⟩:=z0M (l:=l) (i:=i) (by omega)
 have hsv:(l.map AV.str)[i+1]? =some (.str s):=by rw [lAM,hs];rfl
 have hcv:(l.map AV.str)[i]? =some (.str c):=by rw [lAM,hci];rfl
 have hb:(decide (0<i+1)&&zBr l (i+1)) = !(decide (c<s)):=by
  unfold zBr
  rw [z1Z hs,Nat.add_sub_cancel,z1Z hci];simp
 have es:(((i+1:Nat):Int)-1)=(i:Int):=by omega
 refine z0A ?_
 refine z5j rfl rfl (by omega) (by omega) ?_
 rw [es]
 refine z0A ?_
 refine z2S (v:=.bool (!(Op.bytesLess c s))) rfl ?_
 rw [Go.Proofs.bytesLess_eq]
 cases hq:decide (c<s)
 ·have:((List.range l.length).any fun i=>decide (0<i)&&zBr l i)=true:=z4U hc (by rw [hb,hq];rfl)
  rw [this]
  refine z0A ?_
  exact z0Y rfl (z0s (z0N.bool _))
 ·refine z0A ?_
  exact ⟨by omega,rfl,rfl,z3F v1 (by rw [hb,hq];rfl)⟩
theorem a70 {lv:AV} {l:List Bt} (hl:Sl 1 lv (l.map .str)) (hw:okW l) (hn:l.length≤1000000) (H:z0B) :
  z0D PP 60 [lv] H (z1A H (.int .i64 (if decide ((l.length:Int)>40)||l.any z1Y then 3 else if (l.any fun s=>!z2X s) || !z8z l then 1 else 0))):=by
 have k83:=c83 hl hw
 have k84:=c84 hl hw
 have k130:=a130 hl hn
 refine z0D.gives (is60.c1 z0R mixed rfl ?_)
 rw [lAK]
 have hlen:(l.map AV.str).length=l.length:=lAE _
 refine z0A ?_
 rw [hlen]
 cases h40:decide ((l.length:Int)>40)
 rotate_left
 ·refine z0A ?_
  exact z0Y rfl (z0s (z0N.int _ _))
 refine z0A ?_
 refine z0H rfl (k83 _) ?_
 cases hlg:l.any z1Y
 rotate_left
 ·refine z0A ?_
  exact z0Y rfl (z0s (z0N.int _ _))
 refine z0A ?_
 refine z0H rfl (k84 _) ?_
 cases hsy:(l.any fun s=>!z2X s)
 rotate_left
 ·refine z0A ?_
  exact z0Y rfl (z0s (z0N.int _ _))
 refine z0A ?_
 refine z0H rfl (k130 _) ?_
 cases hst:z8z l
 ·refine z0A ?_
  exact z0Y rfl (z0s (z0N.int _ _))
 ·refine z0A ?_
  exact z0Y rfl (z0s (z0N.int _ _))
def z5V:Ex:=.mk 2 [] true []
def z0d (r:Ru):List Pl:=if r.places.isEmpty then [(z5V,z5V)] else r.places
theorem a60 (r:Ru) (hn:r.places.length≤1000000) (H:z0B):z0D PP 47 [z6e r] H (z1A H (.list 6 ((z0d r).map z0x))):=by
 obtain ⟨kind,pn,pairs,ln,places,below⟩:=r
 simp only at hn
 have hp:z0N (.list 6 ((z0d ⟨kind,pn,pairs,ln,places,below⟩).map z0x)):=z0N.list _ fun x hx=>by
  obtain ⟨p,_,rfl⟩:=lA4.1 hx
  exact zPK p
 refine z0D.gives (is47.c1 z0R mixed rfl ?_)
 unfold z6e
 unfold z0d at hp ⊢
 simp only at hp ⊢
 have hsl:=zGB ln places
 have hll:(places.map z0x).length=places.length:=lAE _
 cases places with
 | nil =>
  have e1:decide ((([]:List Pl).map z0x).length>(0:Int))=false:=rfl
  refine z0A ?_
  refine z1w (out:=[.int .i64 2,.str [],.nilslice]) rfl rfl ?_
  refine z0A ?_
  refine z1a rfl rfl rfl rfl rfl rfl ?_
  refine z0A ?_
  refine z2a (v:=.agg [.int .i64 2,.str [],.nilslice]) rfl z0K rfl ?_
  refine z2a (v:=.agg [.int .i64 2,.str [],.nilslice]) rfl z0K rfl ?_
  refine z1w (out:=[.int .i64 2,.str [],.nilslice,.int .i64 2,.str [],.nilslice]) rfl rfl ?_
  refine z0Z (out:=[.int .i64 2,.str [],.nilslice,.int .i64 2,.str [],.nilslice]) rfl ?_
  refine z0A ?_
  refine z0Y rfl ⟨_,[Blk.cells (AV.agg [AV.int IntKind.i64 kind,z0T pn pairs,z0U ln [],AV.bool below]).cells,Blk.cells [AV.int IntKind.i64 2,AV.str [],AV.nilslice],.dead],rfl,.step _ _ z0K (.sl 0 1 6 [.agg [.int .i64 2,.str [],.nilslice,.int .i64 2,.str [],.nilslice]] rfl (fun x hx=>by simp only [lA1] at hx;subst hx;rfl) rfl (by simp)) ?_,hp⟩
  rw [lBC _ _ (lAL _),lBJ]
  simp only [lA2,lC0,lB5,List.set_cons_zero]
  exact .done _ _
 | cons p ps =>
  have e:z0U ln (p::ps)=.list 6 ((p::ps).map z0x):=by unfold z0U;simp
  rw [e] at hsl ⊢
  have e1:decide ((((p::ps).map z0x).length:Int)>0)=true:=by simp
  refine z0A ?_
  exact fr (hp:=hp)
end Go.Ab
