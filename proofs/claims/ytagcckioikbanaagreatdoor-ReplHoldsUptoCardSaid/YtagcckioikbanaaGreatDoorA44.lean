/- Part 44 of the proof. -/
import Derived.Test.YtagcckioikbanaaGreatDoorA43
set_option linter.unusedVariables false
set_option linter.unusedSimpArgs false
namespace Go.Ab
open Go
set_option maxRecDepth 100000
set_option maxHeartbeats 16000000
def zTr (len:Nat→Nat) (rows:List (List Nat)) (te p:Nat):Bool:=(rows.getD p []).any fun n=>p+len n==te
def zER (len:Nat→Nat) (rows:List (List Nat)) (from_ te:Nat):Bool:=(List.range (te-from_)).any fun i=>zTr len rows te (from_+i)
theorem zRH {α:Type} {q:α→Bool} {l:List α} {i:Nat} {n:α} (h:l[i]? =some n):(l.take (i+1)).any q=((l.take i).any q||q n):=by
 rw [lA1,h,lDJ];simp
theorem a146 {r:Ru} {rv:AV} {rows:List (List Nat)} {from_ te:Nat} {H:z0B} (hr:Sl 1 rv (rows.map z2P)) (hn:∀ l∈rows,∀ n∈l,n<r.pairs.length) (hpl:∀ p∈r.pairs,p.a.l.length≤1000) (hrl:rows.length≤1000000) (hll:∀ l∈rows,l.length≤1000000) (hto:te≤rows.length) (hft:from_≤te) :
  z0C PP 115 [z6F r,rv,.int .i64 from_,.int .i64 te] H (z1D H (.bool (zER (z3e r) rows from_ te))):=by
 refine z0C.plainE (z0N.bool _) ?_
 have hsp:=zCB r.pn r.pairs
 refine zVY.c4 z0P mixed rfl ?_
 rw [lAJ]
 unfold z6F
 have hsc:AV.scalar (z0T r.pn r.pairs)=true:=z1n _ _
 have hsc2:AV.scalar (z0U r.ln r.places)=true:=z1p _ _
 generalize z0T r.pn r.pairs=pv at *
 generalize z0U r.ln r.places=lv2 at *
 refine z1E (z0V ?_)
 refine z0y (.agg [.int .i64 r.kind,pv,lv2,.bool r.below]) rfl (by simp only [AV.shaped,lB3,hsc,hsc2];first | done | rfl) ?_
 have x1:(H++[Blk.cells [.int .i64 r.kind,pv,lv2,.bool r.below]])[H.length]? =some (.cells [.int .i64 r.kind,pv,lv2,.bool r.below]):=z0E
 have xk:=zCE (H:=H).app [Blk.cells [.int .i64 r.kind,pv,lv2,.bool r.below]]
 show VV _ _ _ (H++[Blk.cells [.int .i64 r.kind,pv,lv2,.bool r.below]]) _ _
 generalize (H++[Blk.cells [.int .i64 r.kind,pv,lv2,.bool r.below]]:z0B)=X at *
 have hlm:(rows.map z2P).length=rows.length:=lAD _
 refine z0A ?_
 refine z0H (te-from_) (fun i al W=>al=[(1,rv),(3,.int .i64 te),(4,.ptr H.length 0),(9,.int .i64 (from_+i:Nat))]∧W=X∧(List.range i).any (fun i=>zTr (z3e r) rows te (from_+i))=false) ⟨rfl,rfl,rfl⟩ ?_
 rintro i _ X hi ⟨rfl,rfl,v1⟩
 have e1:decide (((from_+i:Nat):Int)<(te:Int))=decide (from_+i<te):=by simp only [lAP];omega
 refine z0A ?_
 rw [e1]
 cases hc:decide (from_+i<te)
 ·simp only [lAC] at hc
  obtain rfl:i=te-from_:=by omega
  refine z0A ?_
  exact z0W rfl (.inl ⟨_,rfl,by unfold zER;rw [v1];rfl,xk⟩)
 simp only [lAE] at hc
 obtain ⟨row,hrow⟩:=z0M (l:=rows) (i:=from_+i) (by omega)
 have hrv:(rows.map z2P)[from_+i]? =some (z2P row):=by rw [lAK,hrow];rfl
 obtain ⟨sc1,sc2⟩:=z8g row
 have hsr:=z8Q row
 have hrl2:(row.map z0k).length=row.length:=lAD _
 have hnr:=hn row (lAF hrow)
 have hlr:=hll row (lAF hrow)
 have hend:zTr (z3e r) rows te (from_+i)=row.any fun n=>from_+i+z3e r n==te:=by
  unfold zTr;rw [lAB,hrow];rfl
 generalize z2P row=kl at *
 refine z0A ?_
 refine z0H row.length (fun k al W=>al=[(1,rv),(3,.int .i64 te),(4,.ptr H.length 0),(9,.int .i64 (from_+i:Nat)),(10,.int .i64 k)]∧W=X∧(row.take k).any (fun n=>from_+i+z3e r n==te)=false) ⟨rfl,rfl,by simp⟩ ?_
 rintro k _ X hk ⟨rfl,rfl,v2⟩
 have e2:decide ((k:Int)<((row.map z0k).length:Int))=decide (k<row.length):=by rw [hrl2];simp only [lAP];omega
 refine z0A ?_
 rw [sc2]
 refine z0A ?_
 rw [e2]
 cases hc2:decide (k<row.length)
 ·simp only [lAC] at hc2
  have htk:row.take k=row:=lAQ (by omega)
  rw [htk,←hend] at v2
  refine z0A ?_
  exact ⟨by omega,rfl,rfl,z2r v1 v2⟩
 simp only [lAE] at hc2
 obtain ⟨n,hni⟩:=z0M (l:=row) (i:=k) hc2
 have hnv:(row.map z0k)[k]? =some (z0k n):=by rw [lAK,hni];rfl
 obtain ⟨p,hp,hu,hfl,hpm⟩:=zDw (r:=r) (hnr n (lAF hni))
 have hsw:=z6S p.a
 have hlw:(p.a.l.map AV.str).length=p.a.l.length:=lAD _
 have hpl2:=hpl p hpm
 have hsn:=zRH (q:=fun n=>from_+i+z3e r n==te) hni
 rw [v2,lCP] at hsn
 refine z0A ?_
 rw [sc2]
 refine z0A ?_
 rw [hlw,←hfl]
 refine z1N rfl rfl (by omega) ?_
 have e3:(((from_+i+z3e r n:Nat):Int)==(te:Int))=(from_+i+z3e r n==te):=by
  rw [lBM];simp;omega
 refine z0A ?_
 rw [e3]
 cases hq:(from_+i+z3e r n==te)
 ·rw [hq] at hsn
  refine z0A ?_
  exact ⟨by omega,rfl,rfl,hsn⟩
 ·refine z0A ?_
  refine z0W rfl (.inl ⟨_,rfl,?_,xk⟩)
  have h2:row.any (fun n=>from_+i+z3e r n==te)=true:=lA0.2 ⟨n,lAF hni,hq⟩
  unfold zER
  rw [z3t (i:=i) (by omega) (by rw [hend];exact h2)];rfl
abbrev Pt:=Nat × Nat × Nat
def ptA (t:Pt):AV:=.agg [.int .i64 t.1,.int .i64 t.2.1,.int .i64 t.2.2]
def zUD (l:List Pt):AV:=if l.isEmpty then .nilslice else .list 3 (l.map ptA)
theorem zSF (l:List Pt):Sl 3 (zUD l) (l.map ptA):=by
 unfold zUD
 cases l with
 | nil=>exact .nil
 | cons a l=>exact .list _
def toW (r:Ru) (n:Nat):List Bt:=(r.pairs.getD n ⟨⟨true,[]⟩,⟨true,[]⟩⟩).b.l
def z5x (r:Ru):Bool:=(r.kind==2)||(r.kind==3)
def z5z (r:Ru) (x y:List Bt) (rows:List (List Nat)) (t:Pt):List Nat:=if r.below then atR r x t.1 (y.take t.2.1) else rows.getD t.1 []
def zFp (r:Ru) (x y:List Bt) (rows:List (List Nat)) (t:Pt):List Nat:=if z5x r then z2c r.kind (z3e r) (z5z r x y rows t) else z5z r x y rows t
def z9E (r:Ru) (x y:List Bt) (rows:List (List Nat)) (t:Pt):Bool :=
 (if z5x r then (zFp r x y rows t).isEmpty else true)&&decide (t.2.1<y.length)&&(x.getD t.1 []==y.getD t.2.1 []) && !((r.kind==0)&&zER (z3e r) rows t.2.2 (t.1+1))
def goR (r:Ru) (t:Pt) (n:Nat):Pt:=(t.1+z3e r n,t.2.1+(toW r n).length,t.1+z3e r n)
def z7H (r:Ru) (x y:List Bt) (rows:List (List Nat)) (t:Pt):List Pt :=
 ((zFp r x y rows t).filter fun n=>z3s y t.2.1 (toW r n)).map (goR r t)++if z9E r x y rows t then [(t.1+1,t.2.1+1,t.2.2)] else []
theorem zRm {r:Ru} {x a:List Bt} {p:Nat}:∀ n∈atR r x p a,n<r.pairs.length:=fun n hn=>lA8.1 (lBT.1 hn).1
theorem zEa {r:Ru} {x a:List Bt} {p:Nat}:(atR r x p a).length≤r.pairs.length:=z3X _ _
theorem zHX {X:z0B} {L:List (Nat × (z3T→Prop))} {W:z0B} (h:AskMs L X W) {sz lo:Nat} {kv:AV} {l:List AV} (hk:z2h sz lo W kv l):∀ p∈L,∀ k,kv≠.sl p.1 0 k sz:=by
 intro p hp k e
 obtain ⟨es,c,_,hg⟩:=h.at_ p hp
 rcases hk.2 with ⟨_,e2⟩ | ⟨kb,e2,g,_,_⟩
 ·rw [e2] at e;cases e
 ·rw [e2] at e
  injection e with e
  subst e
  rw [g] at hg;cases hg
theorem AskMs.growG {X:z0B} {L:List (Nat × (z3T→Prop))} {W Z:z0B} (h:AskMs L X W) {sz lo:Nat} {kv:AV} {l:List AV} (hk:z2h sz lo W kv l) (hlo:X.length≤lo) (hp:∀ (j:Nat) (b:Blk),(∀ k,kv≠.sl j 0 k sz)→W[j]? =some b→Z[j]? =some b) (hl:W.length≤Z.length):AskMs L X Z :=
 h.pres (fun j b _ hj hb=>hp j b (hk.ne (by omega)) hb) (fun p hq b hb=>hp _ b (zHX h hk p hq) hb) hl
theorem zMn {r:Ru} {n:Nat} {p:Pr} (h:r.pairs[n]? =some p):toW r n=p.b.l:=by
 unfold toW;rw [lAB,h];rfl
theorem zSQ {lo n sz:Nat} {W:z0B} {kv:AV} {l:List AV} (hk:z2h sz lo W kv l) (hn:n≤lo):∃ K,SealsX n kv W (if l.isEmpty then .nilslice else .list sz l) K∧(K=W∨∃ kb k,kv=.sl kb 0 k sz∧K=W.set kb .dead):=by
 obtain ⟨h0,⟨rfl,rfl⟩ | ⟨kb,rfl,g,hlo,hne⟩⟩:=hk
 ·exact ⟨W,.done _ _,.inl rfl⟩
 ·refine ⟨W.set kb .dead,?_,.inr ⟨kb,_,rfl,rfl⟩⟩
  rw [if_neg (by rw [lCX];exact hne)]
  exact .step kb _ (by omega) g (.base _ _ (.sl 0 _ sz l rfl h0 (by rw [lBP,←z0t h0,lAW]) (by rw [z0t h0];omega))) (.done _ _)
theorem AskMs.sealedG {X:z0B} {L:List (Nat × (z3T→Prop))} {W K:z0B} (h:AskMs L X W) {sz lo:Nat} {kv:AV} {l:List AV} (hk:z2h sz lo W kv l) (hlo:X.length≤lo) (e:K=W∨∃ kb k,kv=.sl kb 0 k sz∧K=W.set kb .dead):AskMs L X K:=by
 rcases e with rfl | ⟨kb,k,rfl,rfl⟩
 ·exact h
 ·have hn:=zHX h hk
  rcases hk.2 with ⟨_,e⟩ | ⟨kb',e,_,hlo2,_⟩
  ·cases e
  ·injection e with e
   subst e
   exact h.own (by omega) fun p hp e=>hn p hp k (by rw [e])
theorem z9S {lo n:Nat} {W:z0B} {kv:AV} {pts:List Pt} (hk:z2h 3 lo W kv (pts.map ptA)) (hn:n≤lo):∃ K,SealsX n kv W (zUD pts) K∧(K=W∨∃ kb k,kv=.sl kb 0 k 3∧K=W.set kb .dead):=by
 obtain ⟨K,g1,g2⟩:=zSQ (n:=n) hk hn
 refine ⟨K,?_,g2⟩
 unfold zUD
 rw [lD7] at g1
 exact g1
section calls5
variable {P:Program} {H:z0B} {f:FuncId} {anns:List Ann} {F:IFunc} {R:z2g} (hnn:z6j P) (hm:P.follows .mixedOrders=true) (hF:Is P f anns F)
include hnn hm hF
theorem Is.c5 {a b c d e:AV} (hn:Nat.ble 5 F.n=true) (h:WI P F.body (z4P F.rs R) [(0,a),(1,b),(2,c),(3,d),(4,e)] (H++[])):z0C P f [a,b,c,d,e] H R:=by
 rw [lAJ] at h;exact hF.call hnn hm hn h.1
end calls5
section
variable {r:Ru} {ms:List (Nat × Nat)} {plv v:AV} {X:z0B}
theorem a82 {xv yv rv:AV} {x y:List Bt} {rows:List (List Nat)} {t:Pt} (hA:AkV r ms plv v) (hx:Sl 1 xv (x.map .str)) (hy:Sl 1 yv (y.map .str)) (gx:GW x) (gy:GW y) (hxl:x.length≤100000) (hyl:y.length≤100000) (hr:Sl 1 rv (rows.map z2P)) (hrl:rows.length=x.length)
  (hrn:∀ l∈rows,l.length≤1000∧∀ n∈l,n<r.pairs.length) (ht1:t.1<x.length) (ht2:t.2.1≤y.length) (ht3:t.2.2≤t.1) (hX:AskMs (z2d r.places ms) X X) :
  z0C PP 64 [v,xv,yv,rv,ptA t] X (zLn (fun u H'=>u=zUD (z7H r x y rows t)∧AskMs (z2d r.places ms) X H') (fun _ _=>False)):=by
 have hnp:=hA.np
 have hpl:=hA.pl
 have k75:=fun (av:AV) (a:List Bt) (W:z0B) ha ga hal hp hW=>a75 (X:=W) (av:=av) (a:=a) (p:=t.1) hA hx ha gx ga (by omega) hal hp hW
 have k144:=a144 r
 have k145:=fun (lv:AV) (l:List Nat) (W:z0B) h1 h2 h3=>a145 (r:=r) (lv:=lv) (l:=l) (H:=W) h1 h2 hnp (fun p hp=>(hpl p hp).1) h3
 have k146:=fun (W:z0B) h1 h2=>a146 (r:=r) (rv:=rv) (rows:=rows) (from_:=t.2.2) (te:=t.1+1) (H:=W) hr (fun l hl=>(hrn l hl).2) (fun p hp=>(hpl p hp).1) (by omega) (fun l hl=>by have:=(hrn l hl).1;omega) h1 h2
 obtain rfl:=hA.eq
 refine z0C.sealed (n:=X.length) ?_
 refine Is.c5 z0P mixed is64 rfl ?_
 rw [lAJ]
 have hsp:=zCB r.pn r.pairs
 have hlp:(r.pairs.map z2e).length=r.pairs.length:=lAD _
 have hlx:(x.map AV.str).length=x.length:=lAD _
 have hly:(y.map AV.str).length=y.length:=lAD _
 have hlr:(rows.map z2P).length=rows.length:=lAD _
 have hsc:AV.scalar (z0T r.pn r.pairs)=true:=z1n _ _
 have hsc2:AV.scalar (z0U r.ln r.places)=true:=z1p _ _
 unfold z6F at k144 k145 k146
 generalize z0T r.pn r.pairs=pv at *
 generalize z0U r.ln r.places=lv at *
 obtain ⟨tx,ty,run⟩:=t
 simp only at ht1 ht2 ht3
 unfold ptA
 refine z1E (z0V ?_)
 refine z0y (.agg [.int .i64 tx,.int .i64 ty,.int .i64 run]) rfl rfl ?_
 have x9:(X++[Blk.cells [.int .i64 tx,.int .i64 ty,.int .i64 run]])[X.length]? =some (.cells [.int .i64 tx,.int .i64 ty,.int .i64 run]):=z0E
 have xk:=hX.app [Blk.cells [.int .i64 tx,.int .i64 ty,.int .i64 run]]
 have xl:(X++[Blk.cells [.int .i64 tx,.int .i64 ty,.int .i64 run]]:z0B).length=X.length+1:=by simp
 show VV _ _ _ (X++[Blk.cells [.int .i64 tx,.int .i64 ty,.int .i64 run]]) _ _
 generalize (X++[Blk.cells [.int .i64 tx,.int .i64 ty,.int .i64 run]]:z0B)=Y at *
 refine z0A ?_
 refine z0z (ws:=[.int .i64 r.kind,pv,lv,.bool r.below]) rfl rfl rfl rfl rfl (by simp only [lB3,hsc,hsc2];rfl) ?_
 have z11:(Y++[Blk.cells [.int .i64 r.kind,pv,lv,.bool r.below]])[X.length+1]? =some (.cells [.int .i64 r.kind,pv,lv,.bool r.below]):=by rw [←xl];exact z0E
 have z9:=z0G (G:=[Blk.cells [.int .i64 r.kind,pv,lv,.bool r.below]]) x9
 have zk:=xk.app [Blk.cells [.int .i64 r.kind,pv,lv,.bool r.below]]
 have zl:(Y++[Blk.cells [.int .i64 r.kind,pv,lv,.bool r.below]]:z0B).length=X.length+2:=by simp [xl]
 rw [xl]
 generalize (Y++[Blk.cells [.int .i64 r.kind,pv,lv,.bool r.below]]:z0B)=Z at *
 clear x9 xk xl Y
 obtain ⟨row,hrow⟩:=z0M (l:=rows) (i:=tx) (by omega)
 have hrv:(rows.map z2P)[tx]? =some (z2P row):=by rw [lAK,hrow];rfl
 obtain ⟨sc1,sc2⟩:=z8g row
 have hnow0:z5z r x y rows (tx,ty,run)=if r.below then atR r x tx (y.take ty) else row:=by
  unfold z5z
  rw [lAB,hrow];rfl
 have hrow2:=hrn row (lAF hrow)
 refine z0A ?_
 rw [sc2]
 refine z0A ?_
 have hnm:∀ p∈z2d r.places ms,p.1≠X.length∧p.1≠X.length+1:=fun p hp=>by
  obtain ⟨es,c,_,hg⟩:=hX.at_ p hp
  have:=(lAA.1 hg).1
  omega
 refine zCM (fun al' H'=>z1e al' 1=xv∧z1e al' 2=yv∧z1e al' 3=rv∧z1e al' 9=.ptr X.length 0∧z1e al' 11=.ptr (X.length+1) 0∧z1e al' 12=z2P (z5z r x y rows (tx,ty,run))∧AskMs (z2d r.places ms) X H'∧H'[X.length]? =some (.cells [.int .i64 tx,.int .i64 ty,.int .i64 run])∧H'[X.length+1]? =some (.cells [.int .i64 r.kind,pv,lv,.bool r.below])) ?_ ?_
 ·cases hbl:r.below
  ·rw [hbl] at hnow0 z11
   refine z0A ?_
   refine ⟨rfl,rfl,rfl,rfl,rfl,?_,zk,z9,z11⟩
   rw [hnow0];rfl
  ·rw [hbl] at hnow0 z11 k75
   refine z0A ?_
   refine z1B (z2D [X.length]) ?_
   refine z0A ?_
   refine zDc (a:=0) (b:=ty) rfl hy rfl (by rw [hly];exact z8u (by omega)) ?_
   intro av hav
   have hav:=zAN hav
   have hdr:sub y 0 ty=y.take ty:=by unfold sub;simp
   rw [hdr] at hav
   refine z3q ?_
   refine z8C rfl rfl (lAL _) ?_
   refine z0L rfl (k75 av _ Z hav (gy.take _) (by simp;omega) (by omega) zk.self) ?_ ?_
   rotate_left
   ·rintro u V' (⟨v,hu,_⟩ | ⟨p,_,hf⟩)
    ·cases hu
    ·exact hf.elim
   rintro u W1 (⟨u',hu,hv',hin⟩ | ⟨p,hu,_⟩)
   rotate_left
   ·cases hu
   cases hu
   have o9:=hin.old _ _ (fun p hp=>(hnm p hp).1) z9
   have o11:=hin.old _ _ (fun p hp=>(hnm p hp).2) z11
   refine z0j (z0c fun j hj b hb'=>?_) ?_
   ·simp only [lAR] at hj
    subst hj
    exact hin.old _ _ (fun p hp=>(hnm p hp).1) hb'
   refine z0A ?_
   refine ⟨rfl,rfl,rfl,rfl,rfl,?_,zk.trans hin,o9,o11⟩
   rw [hnow0];exact hv'
 have hn0:∀ n∈z5z r x y rows (tx,ty,run),n<r.pairs.length:=by
  rw [hnow0]
  split
  ·exact zRm
  ·exact hrow2.2
 have hl0:(z5z r x y rows (tx,ty,run)).length≤1000:=by
  rw [hnow0]
  split
  ·have:=zEa (r:=r) (x:=x) (a:=y.take ty) (p:=tx);omega
  ·exact hrow2.1
 clear z9 z11 zk zl Z
 rintro al0 Z ⟨l1,l2,l3,l9,l11,l12,zk,z9,z11⟩
 have hnow:zFp r x y rows (tx,ty,run)=if z5x r then z2c r.kind (z3e r) (z5z r x y rows (tx,ty,run)) else z5z r x y rows (tx,ty,run):=rfl
 generalize z5z r x y rows (tx,ty,run)=now0 at *
 refine z1E (z0V (z2K (v:=.bool true) rfl (z8M (al':=[(1,xv),(2,yv),(3,rv),(9,.ptr X.length 0),(11,.ptr (X.length+1) 0),(12,z2P now0),(13,.bool true)]) ?_ ?_)))
 ·show [(1,z1e al0 1),(2,z1e al0 2),(3,z1e al0 3),(9,z1e al0 9),(11,z1e al0 11),(12,z1e al0 12),(13,AV.bool true)]=_
  rw [l1,l2,l3,l9,l11,l12]
 have hsl0:=z8Q now0
 have hll0:(now0.map z0k).length=now0.length:=lAD _
 refine z0A ?_
 refine z0J rfl (k144 _) ?_
 have hgr:((r.kind==2)||(r.kind==3))=z5x r:=rfl
 rw [hgr]
 refine z0A ?_
 refine zCM (fun al' H'=>z1e al' 1=xv∧z1e al' 2=yv∧z1e al' 3=rv∧z1e al' 9=.ptr X.length 0∧z1e al' 11=.ptr (X.length+1) 0∧z1e al' 12=z2P (zFp r x y rows (tx,ty,run))∧z1e al' 13=.bool (if z5x r then (zFp r x y rows (tx,ty,run)).isEmpty else true)∧H'=Z) ?_ ?_
 ·cases hgb:z5x r
  ·rw [hgb] at hnow
   refine z0A ?_
   refine ⟨rfl,rfl,rfl,rfl,rfl,?_,rfl,rfl⟩
   rw [hnow];rfl
  ·rw [hgb,if_pos rfl] at hnow
   have hsl1:=z8Q (z2c r.kind (z3e r) now0)
   have he:((((z2c r.kind (z3e r) now0).map z0k).length:Int)==0)=(z2c r.kind (z3e r) now0).isEmpty:=by
    cases z2c r.kind (z3e r) now0 with
    | nil=>rfl
    | cons a l=>simp;omega
   rw [hnow]
   refine z0A ?_
   refine z0J rfl (k145 _ now0 Z hsl0 hn0 (by omega)) ?_
   refine z0A ?_
   rw [he]
   exact ⟨rfl,rfl,rfl,rfl,rfl,rfl,rfl,rfl⟩
 have hn1:∀ n∈zFp r x y rows (tx,ty,run),n<r.pairs.length:=by
  rw [hnow]
  split
  ·exact fun n hn=>hn0 n (lBT.1 hn).1
  ·exact hn0
 have hl1:(zFp r x y rows (tx,ty,run)).length≤1000:=by
  rw [hnow]
  split
  ·exact lBK (lCD _ _) hl0
  ·exact hl0
 have hst:z9E r x y rows (tx,ty,run)=((if z5x r then (zFp r x y rows (tx,ty,run)).isEmpty else true)&&decide (ty<y.length)&&(x.getD tx []==y.getD ty []) && !((r.kind==0)&&zER (z3e r) rows run (tx+1))):=rfl
 have hnx:z7H r x y rows (tx,ty,run)=((zFp r x y rows (tx,ty,run)).filter fun n=>z3s y ty (toW r n)).map (goR r (tx,ty,run))++if z9E r x y rows (tx,ty,run) then [(tx+1,ty+1,run)] else []:=rfl
 rw [hnx]
 clear hnx hnow hnow0 hsl0 hll0 hn0 hl0 l1 l2 l3 l9 l11 l12 al0
 rintro al0 _ ⟨l1,l2,l3,l9,l11,l12,l13,rfl⟩
 generalize zFp r x y rows (tx,ty,run)=now at *
 generalize (if z5x r then now.isEmpty else true)=st at *
 refine z1E (z0V (z2K (v:=.nilslice) rfl (z8M (al':=[(1,xv),(2,yv),(3,rv),(9,.ptr X.length 0),(11,.ptr (X.length+1) 0),(12,z2P now),(13,.bool st),(14,.nilslice)]) ?_ ?_)))
 ·show [(1,z1e al0 1),(2,z1e al0 2),(3,z1e al0 3),(9,z1e al0 9),(11,z1e al0 11),(12,z1e al0 12),(13,z1e al0 13),(14,AV.nilslice)]=_
  rw [l1,l2,l3,l9,l11,l12,l13]
 have hsn:=z8Q now
 have hln:(now.map z0k).length=now.length:=lAD _
 refine z0A ?_
 refine z0H now.length (fun i al W=>∃ ov,al=[(1,xv),(2,yv),(3,rv),(9,.ptr X.length 0),(11,.ptr (X.length+1) 0),(12,z2P now),(13,.bool st),(14,ov),(15,.int .i64 i)]∧AskMs (z2d r.places ms) X W∧W[X.length]? =some (.cells [.int .i64 tx,.int .i64 ty,.int .i64 run])∧W[X.length+1]? =some (.cells [.int .i64 r.kind,pv,lv,.bool r.below]) ∧
  z2h 3 (X.length+2) W ov ((((now.take i).filter fun n=>z3s y ty (toW r n)).map (goR r (tx,ty,run))).map ptA)) ⟨_,rfl,zk,z9,z11,z2h.nil⟩ ?_
 clear zk z9 z11
 rintro i _ W hi ⟨ov,rfl,wk,w9,w11,wo⟩
 have e1:decide ((i:Int)<((now.map z0k).length:Int))=decide (i<now.length):=by rw [hln];simp only [lAP];omega
 have hwl:X.length+2≤W.length:=(lAA.1 w11).1
 refine z0A ?_
 rw [e1]
 cases hc:decide (i<now.length)
 rotate_left
 ·simp only [lAE] at hc
  obtain ⟨n,hni⟩:=z0M (l:=now) (i:=i) hc
  have hnv:(now.map z0k)[i]? =some (z0k n):=by rw [lAK,hni];rfl
  obtain ⟨p,hp,hu,hfl,hpm⟩:=zDw (r:=r) (hn1 n (lAF hni))
  have htw:=zMn hp
  obtain ⟨hpl1,hpl2⟩:=hpl p hpm
  have hs1:=z6S p.a
  have hs2:=z6S p.b
  have hl1:(p.a.l.map AV.str).length=p.a.l.length:=lAD _
  have hl2:(p.b.l.map AV.str).length=p.b.l.length:=lAD _
  have k134:=a134 hy hs2 ht2 (by omega) (by omega)
  have hsn2:=z8q (q:=fun n=>z3s y ty (toW r n)) hni
  simp only [htw] at hsn2
  refine z0A ?_
  refine z1B (z2D [X.length+1]) ?_
  refine z0A ?_
  refine z8C rfl rfl (lAL _) ?_
  refine z8P ?_
  refine z0j z2M ?_
  refine z8C rfl rfl (by simp) ?_
  refine z0z (ws:=[z0X p.a,z0X p.b]) rfl rfl rfl rfl rfl zLe ?_
  have y16:(W++[Blk.cells [z0X p.a,z0X p.b]])[W.length]? =some (.cells [z0X p.a,z0X p.b]):=z0E
  have y9:=z0G (G:=[Blk.cells [z0X p.a,z0X p.b]]) w9
  have y11:=z0G (G:=[Blk.cells [z0X p.a,z0X p.b]]) w11
  have yk:=wk.app [Blk.cells [z0X p.a,z0X p.b]]
  have yo:=wo.app [Blk.cells [z0X p.a,z0X p.b]]
  refine z0j (z0c fun j hj b hb'=>?_) ?_
  ·simp only [lAR] at hj
   subst hj
   rw [lAN (by omega)] at hb' ⊢
   exact hb'
  have yl:(W++[Blk.cells [z0X p.a,z0X p.b]]:z0B).length=W.length+1:=by simp
  generalize (W++[Blk.cells [z0X p.a,z0X p.b]]:z0B)=Y at *
  generalize W.length=bw at *
  refine z0A ?_
  refine z0J rfl (k134 _) ?_
  cases hf:z3s y ty p.b.l
  ·rw [hf] at hsn2
   refine z0A ?_
   exact ⟨hc,ov,rfl,yk,y9,y11,by rw [hsn2,if_neg (by simp),lAJ];exact yo⟩
  ·rw [hf,if_pos rfl] at hsn2
   have hgo:goR r (tx,ty,run) n=(tx+p.a.l.length,ty+p.b.l.length,tx+p.a.l.length):=by unfold goR;rw [hfl,htw]
   refine z0A ?_
   rw [hl1]
   refine z1N rfl rfl (by omega) ?_
   refine z0A ?_
   rw [hl2]
   refine z1N rfl rfl (by omega) ?_
   refine z0A ?_
   rw [hl1]
   refine z1N rfl rfl (by omega) ?_
   refine z0s (out:=[.int .i64 (tx+p.a.l.length:Nat),.int .i64 (ty+p.b.l.length:Nat),.int .i64 (tx+p.a.l.length:Nat)]) rfl rfl ?_
   refine z0S (out:=[.int .i64 (tx+p.a.l.length:Nat),.int .i64 (ty+p.b.l.length:Nat),.int .i64 (tx+p.a.l.length:Nat)]) rfl ?_
   have hol:((((now.take i).filter fun n=>z3s y ty (toW r n)).map (goR r (tx,ty,run))).map ptA).length≤1000:=by
    rw [lAD,lAD]
    exact lBK (lCD _ _) (by rw [lBR];omega)
   refine z3w (v:=ov) rfl yo rfl rfl rfl (by omega) (by omega) ?_
   intro ov' T hko hpres hlen hfr
   refine z0A ?_
   refine ⟨hc,ov',rfl,yk.growG yo (by omega) hpres hlen,hpres _ _ (yo.ne (by omega)) y9,hpres _ _ (yo.ne (by omega)) y11,?_⟩
   rw [hsn2,lBE,lBE,lBA,lCU,lBA,lCU,hgo]
   exact hko
 simp only [lAC] at hc
 have htk:now.take i=now:=lAQ (by omega)
 rw [htk] at wo
 have hpt:((now.filter fun n=>z3s y ty (toW r n)).map (goR r (tx,ty,run))).length≤1000:=by
  rw [lAD]
  exact lBK (lCD _ _) hl1
 generalize ((now.filter fun n=>z3s y ty (toW r n)).map (goR r (tx,ty,run)))=pts at *
 clear hc e1 hi htk hsn hn1
 have hfin:pts++(if false=true then [(tx+1,ty+1,run)] else [])=pts:=by simp
 refine z0A ?_
 refine z1B zYd ?_
 cases st
 ·have hs0:z9E r x y rows (tx,ty,run)=false:=by rw [hst];simp
  rw [hs0,hfin]
  refine z0A ?_
  refine zCN rfl (lAL _) rfl ?_
  refine z0A ?_
  refine z0W rfl (.inl ?_)
  obtain ⟨K,g1,g2⟩:=z9S (n:=X.length) wo (by omega)
  exact ⟨_,_,K,rfl,g1,rfl,wk.sealedG wo (by omega) g2⟩
 obtain ⟨a,hxa⟩:=z0M (l:=x) (i:=tx) ht1
 have hxv:(x.map AV.str)[tx]? =some (.str a):=by rw [lAK,hxa];rfl
 have hxd:x.getD tx []=a:=by rw [lAB,hxa];rfl
 have e2:decide ((ty:Int)<((y.map AV.str).length:Int))=decide (ty<y.length):=by rw [hly];simp only [lAP];omega
 refine z0A ?_
 rw [e2]
 cases hy2:decide (ty<y.length)
 ·have hs0:z9E r x y rows (tx,ty,run)=false:=by rw [hst];simp [hy2]
  rw [hs0,hfin]
  refine z0A ?_
  refine zCN rfl (lAL _) rfl ?_
  refine z0A ?_
  refine z0W rfl (.inl ?_)
  obtain ⟨K,g1,g2⟩:=z9S (n:=X.length) wo (by omega)
  exact ⟨_,_,K,rfl,g1,rfl,wk.sealedG wo (by omega) g2⟩
 simp only [lAE] at hy2
 obtain ⟨b,hyb⟩:=z0M (l:=y) (i:=ty) hy2
 have hyv:(y.map AV.str)[ty]? =some (.str b):=by rw [lAK,hyb];rfl
 have hyd:y.getD ty []=b:=by rw [lAB,hyb];rfl
 rw [hxd,hyd] at hst
 refine z0A ?_
 cases hab:(a==b)
 ·have hs0:z9E r x y rows (tx,ty,run)=false:=by rw [hst];simp [hab]
  rw [hs0,hfin]
  refine z0A ?_
  refine zCN rfl (lAL _) rfl ?_
  refine z0A ?_
  refine z0W rfl (.inl ?_)
  obtain ⟨K,g1,g2⟩:=z9S (n:=X.length) wo (by omega)
  exact ⟨_,_,K,rfl,g1,rfl,wk.sealedG wo (by omega) g2⟩
 have hd2:decide (ty<y.length)=true:=by rw [lAE];exact hy2
 rw [hab,hd2] at hst
 have hfin2:pts++(if true=true then [(tx+1,ty+1,run)] else [])=pts++[(tx+1,ty+1,run)]:=by simp
 refine z0A ?_
 cases h0:(r.kind==0)
 ·have hs0:z9E r x y rows (tx,ty,run)=true:=by rw [hst,h0];rfl
  rw [hs0,hfin2]
  refine z0A ?_
  refine zDW rfl (lAL _) rfl rfl ?_
  refine z0A ?_
  refine z0s (out:=[.int .i64 (tx+1:Nat),.int .i64 (ty+1:Nat),.int .i64 run]) rfl rfl ?_
  refine z0S (out:=[.int .i64 (tx+1:Nat),.int .i64 (ty+1:Nat),.int .i64 run]) rfl ?_
  refine z3w (v:=ov) rfl wo rfl rfl rfl (by rw [lAD];omega) (by omega) ?_
  intro ov' T hko hpres hlen hfr
  have hmo:pts.map ptA++[.agg [.int .i64 (tx+1:Nat),.int .i64 (ty+1:Nat),.int .i64 run]]=(pts++[(tx+1,ty+1,run)]).map ptA:=by rw [lBE];rfl
  rw [hmo] at hko
  have tk:=wk.growG wo (by omega) hpres hlen
  refine z0A ?_
  refine z0W rfl (.inl ?_)
  obtain ⟨K,g1,g2⟩:=z9S (n:=X.length) hko (by omega)
  exact ⟨_,_,K,rfl,g1,rfl,tk.sealedG hko (by omega) g2⟩
 rw [h0] at hst
 refine z0A ?_
 refine zLw rfl (lAL _) rfl (z0J rfl (k146 W (by first | omega | (simp only;omega)) (by first | omega | (simp only;omega))) (z0j (fun _ _ _ _ q=>q) ?_))
 cases he:zER (z3e r) rows run (tx+1)
 ·have hs0:z9E r x y rows (tx,ty,run)=true:=by rw [hst,he];rfl
  rw [hs0,hfin2]
  refine z0A ?_
  refine z0s (out:=[.int .i64 (tx+1:Nat),.int .i64 (ty+1:Nat),.int .i64 run]) rfl rfl ?_
  refine z0S (out:=[.int .i64 (tx+1:Nat),.int .i64 (ty+1:Nat),.int .i64 run]) rfl ?_
  refine z3w (v:=ov) rfl wo rfl rfl rfl (by rw [lAD];omega) (by omega) ?_
  intro ov' T hko hpres hlen hfr
  have hmo:pts.map ptA++[.agg [.int .i64 (tx+1:Nat),.int .i64 (ty+1:Nat),.int .i64 run]]=(pts++[(tx+1,ty+1,run)]).map ptA:=by rw [lBE];rfl
  rw [hmo] at hko
  have tk:=wk.growG wo (by omega) hpres hlen
  refine z0A ?_
  refine z0W rfl (.inl ?_)
  obtain ⟨K,g1,g2⟩:=z9S (n:=X.length) hko (by omega)
  exact ⟨_,_,K,rfl,g1,rfl,tk.sealedG hko (by omega) g2⟩
 ·have hs0:z9E r x y rows (tx,ty,run)=false:=by rw [hst,he];rfl
  rw [hs0,hfin]
  refine z0A ?_
  refine z0W rfl (.inl ?_)
  obtain ⟨K,g1,g2⟩:=z9S (n:=X.length) wo (by omega)
  exact ⟨_,_,K,rfl,g1,rfl,wk.sealedG wo (by omega) g2⟩
end
set_option maxHeartbeats 8000000
abbrev Way:=Int × Nat
def z1z (m:Way):AV:=fv m.1 m.2
def z5b (l:List Way):AV:=if l.isEmpty then .nilslice else .list 2 (l.map z1z)
theorem zDh (l:List Way):Sl 2 (z5b l) (l.map z1z):=by
 unfold z5b
 cases l with
 | nil=>exact .nil
 | cons a l=>exact .list _
theorem zBH (l:List Way):z0N (z5b l):=by
 unfold z5b
 split
 ·exact z0N.nilslice
 ·exact z0N.list _ fun x hx=>by
   obtain ⟨q,_,rfl⟩:=lBB.1 hx
   exact z0N.agg fun y hy=>by
    simp only [lAV,lA7,or_false] at hy
    rcases hy with rfl | rfl<;>exact z0N.int _ _
section
variable {H:z0B}
theorem a209 {kv:AV} {l:List Way} {caps:List AV} {p:Way→Bool} {g:FuncId} (hk:Sl 2 kv (l.map z1z)) (hn:l.length≤1000000) (hb:hasBody PP g=true) (hcl:∀ v∈l,z0C PP g (z1z v::caps) H (z1D H (.bool (p v)))) :
  z0C PP 166 [kv,.clo (.func g) [] caps] H (fun r H'=>(∃ n:Int,r=.ret (.int .i64 n)∧decide (n≥0)=l.any p)∧H'=H):=by
 refine zSr.c2 z0P mixed rfl ?_
 rw [lAJ]
 have hlm:(l.map z1z).length=l.length:=lAD _
 refine z0A ?_
 refine z0H l.length (fun i al H'=>al=[(0,kv),(1,.clo (.func g) [] caps),(7,.int .i64 l.length),(8,.int .i64 i)]∧H'=H∧(l.take i).any p=false) ⟨by rw [hlm];rfl,rfl,by simp⟩ ?_
 rintro i _ V hi ⟨rfl,rfl,v1⟩
 have e1:decide ((i:Int)<(l.length:Int))=decide (i<l.length):=by simp only [lAP];omega
 refine z0A ?_
 rw [e1]
 cases hc:decide (i<l.length)
 ·simp only [lAC] at hc
  have:l.take i=l:=lAQ (by omega)
  rw [this] at v1
  refine z0A ?_
  exact z0W rfl ⟨⟨-1,rfl,by rw [v1];rfl⟩,rfl⟩
 simp only [lAE] at hc
 obtain ⟨v,hv⟩:=z0M (l:=l) (i:=i) hc
 have hu:(l.map z1z)[i]? =some (.agg [.int .i64 v.1,.int .i64 v.2]):=by rw [lAK,hv];rfl
 have k:=hcl v (lAF hv)
 refine z0A ?_
 refine z3V rfl hb k ?_
 have hsn:=z0v (p:=p) hv
 cases hp:p v
 ·refine z0A ?_
  exact ⟨by omega,rfl,rfl,by rw [hsn,v1,hp];rfl⟩
 ·refine z0A ?_
  refine z0W rfl ⟨⟨i,rfl,?_⟩,rfl⟩
  have:l.any p=true:=lA0.2 ⟨v,lAF hv,hp⟩
  rw [this,lAE];omega
theorem a142 {kv:AV} {l:List Way} {caps:List AV} {p:Way→Bool} {g:FuncId} (hk:Sl 2 kv (l.map z1z)) (hn:l.length≤1000000) (hb:hasBody PP g=true) (hcl:∀ v∈l,z0C PP g (z1z v::caps) H (z1D H (.bool (p v)))) :
  z0C PP 102 [kv,.clo (.func g) [] caps] H (z1D H (.bool (l.any p))):=by
 refine zVm.c2 z0P mixed rfl ?_
 rw [lAJ]
 refine z0A ?_
 refine z0L rfl (a209 hk hn hb hcl) ?_ ?_
 rotate_left
 ·rintro u V' ⟨⟨n,hu,_⟩,_⟩
  cases hu
 rintro u V' ⟨⟨n,hu,hnb⟩,rfl⟩
 cases hu
 refine z0A ?_
 exact z0W rfl ⟨by rw [←hnb];rfl,rfl⟩
theorem a143 {m:Way} {at_ fr_ b5:Nat} (hg:H[b5]? =some (.cells [.int .i64 at_,.int .i64 fr_])) (ha:at_≤1000000):z0C PP 103 [z1z m,.ptr b5 0] H (z1D H (.bool (m.2==at_+1))):=by
 refine z0C.gives (zSw.c2 z0P mixed rfl ?_)
 rw [lAJ]
 unfold z1z fv
 refine z1E (z0V ?_)
 refine z0y (.agg [.int .i64 m.1,.int .i64 m.2]) rfl rfl ?_
 have x2:(H++[Blk.cells [.int .i64 m.1,.int .i64 m.2]])[H.length]? =some (.cells [.int .i64 m.1,.int .i64 m.2]):=z0E
 have x5:=z0G (G:=[Blk.cells [.int .i64 m.1,.int .i64 m.2]]) hg
 have e:((m.2:Int)==((at_+1:Nat):Int))=(m.2==at_+1):=by rw [lBM];simp;omega
 show VV _ _ _ (H++[Blk.cells [.int .i64 m.1,.int .i64 m.2]]) _ _
 generalize hG:[Blk.cells [.int .i64 m.1,.int .i64 m.2]]=G at *
 refine z0A ?_
 rw [e]
 exact fr
theorem a210 {kv:AV} {l:List Nat} {t:Int} (hk:Sl 1 kv (l.map z0k)) (hn:l.length≤1000000):z0C PP 167 [kv,.int .i64 t] H (fun r H'=>(∃ n:Int,r=.ret (.int .i64 n)∧decide (n≥0)=l.any fun n=>t==(n:Int))∧H'=H):=by
 refine zVG.c2 z0P mixed rfl ?_
 rw [lAJ]
 have hlm:(l.map z0k).length=l.length:=lAD _
 refine z0A ?_
 refine z0H l.length (fun i al H'=>al=[(0,kv),(1,.int .i64 t),(7,.int .i64 l.length),(8,.int .i64 i)]∧H'=H∧(l.take i).any (fun n=>t==(n:Int))=false) ⟨by rw [hlm];rfl,rfl,by simp⟩ ?_
 rintro i _ V hi ⟨rfl,rfl,v1⟩
 have e1:decide ((i:Int)<(l.length:Int))=decide (i<l.length):=by simp only [lAP];omega
 refine z0A ?_
 rw [e1]
 cases hc:decide (i<l.length)
 ·simp only [lAC] at hc
  have:l.take i=l:=lAQ (by omega)
  rw [this] at v1
  refine z0A ?_
  exact z0W rfl ⟨⟨-1,rfl,by rw [v1];rfl⟩,rfl⟩
 simp only [lAE] at hc
 obtain ⟨v,hv⟩:=z0M (l:=l) (i:=i) hc
 have hu:(l.map z0k)[i]? =some (z0k v):=by rw [lAK,hv];rfl
 have hsn:=z0v (p:=fun n:Nat=>t==(n:Int)) hv
 refine z0A ?_
 cases hp:(t==(v:Int))
 ·refine z0A ?_
  exact ⟨by omega,rfl,rfl,by rw [hsn,v1,hp];rfl⟩
 ·refine z0A ?_
  refine z0W rfl ⟨⟨i,rfl,?_⟩,rfl⟩
  have:l.any (fun n=>t==(n:Int))=true:=lA0.2 ⟨v,lAF hv,hp⟩
  rw [this,lAE];omega
theorem a141 {kv:AV} {l:List Nat} {t:Int} (hk:Sl 1 kv (l.map z0k)) (hn:l.length≤1000000):z0C PP 101 [kv,.int .i64 t] H (z1D H (.bool (l.any fun n=>t==(n:Int)))):=by
 refine zVn.c2 z0P mixed rfl ?_
 rw [lAJ]
 refine z0A ?_
 refine z0L rfl (a210 hk hn) ?_ ?_
 rotate_left
 ·rintro u V' ⟨⟨n,hu,_⟩,_⟩
  cases hu
 rintro u V' ⟨⟨n,hu,hnb⟩,rfl⟩
 cases hu
 refine z0A ?_
 exact z0W rfl ⟨by rw [←hnb];rfl,rfl⟩
theorem a140 {m:Way} {kv:AV} {l:List Nat} {b12:Nat} (hg:H[b12]? =some (.cells [kv])) (hk:Sl 1 kv (l.map z0k)) (hn:l.length≤1000000):z0C PP 100 [z1z m,.ptr b12 0] H (z1D H (.bool (!l.any fun n=>m.1==(n:Int)))):=by
 refine z0C.gives (zSx.c2 z0P mixed rfl ?_)
 rw [lAJ]
 unfold z1z fv
 have k141:=fun H'=>a141 (H:=H') (t:=m.1) hk hn
 refine z1E (z0V ?_)
 refine z0y (.agg [.int .i64 m.1,.int .i64 m.2]) rfl rfl ?_
 have x2:(H++[Blk.cells [.int .i64 m.1,.int .i64 m.2]])[H.length]? =some (.cells [.int .i64 m.1,.int .i64 m.2]):=z0E
 have x5:=z0G (G:=[Blk.cells [.int .i64 m.1,.int .i64 m.2]]) hg
 show VV _ _ _ (H++[Blk.cells [.int .i64 m.1,.int .i64 m.2]]) _ _
 generalize hG:[Blk.cells [.int .i64 m.1,.int .i64 m.2]]=G at *
 refine z0A ?_
 refine z0J rfl (k141 _) ?_
 refine z0A ?_
 exact fr
end
theorem z4E {sz:Nat} {l:List AV} {i:Nat} (h:∀ x∈l,x.cells.length=sz) (hi:i≤l.length):(z0d l).drop (i*sz)=z0d (l.drop i)∧(z0d l).take (i*sz)=z0d (l.take i):=by
 have e:z0d l=z0d (l.take i)++z0d (l.drop i):=by rw [←z3f,lC1]
 have hl:(z0d (l.take i)).length=i*sz:=by
  rw [z0t (fun x hx=>h x (lB7 hx)),lBR,lDS hi]
 rw [e]
 constructor
 ·rw [List.drop_append_of_le_length (by omega),←hl,lDK];rfl
 ·rw [lCG (by omega),←hl,lAW]
theorem zCn {sz:Nat} {l:List AV} {i:Nat} {x:AV} (h:∀ x∈l,x.cells.length=sz) (hi:i<l.length) (hx:x.cells.length=sz):z3B (z0d l) (i*sz) x.cells=z0d (l.set i x):=by
 unfold z3B
 obtain ⟨_,h2⟩:=z4E (i:=i) h (by omega)
 have h1:=(z4E (i:=i+1) h (by omega)).1
 rw [h2,hx,show i*sz+sz=(i+1)*sz by rw [lCT];omega,h1,lC6,if_pos hi,z3f,lA3];rfl
theorem z2y {l:List Way}:∀ x∈l.map z1z,x.cells.length=2:=fun x hx=>by
 obtain ⟨m,_,rfl⟩:=lBB.1 hx
 rfl
theorem z8A (l:List Way):(z0d (l.map z1z)).length=l.length*2:=by rw [z0t z2y,lAD]
theorem zLu {l:List Way} {i:Nat} {m:Way} (h:l[i]? =some m):z2w (some 2) (z0d (l.map z1z)) (0+i*2)=some (.agg [.int .i64 m.1,.int .i64 m.2]):=by
 have hi:=(lAA.1 h).1
 simp only [z2w]
 rw [if_pos (by rw [z8A];omega),lBH,(z4E z2y (by rw [lAD];omega)).1]
 have e:(l.map z1z).drop i=z1z m::(l.map z1z).drop (i+1):=by
  rw [lBQ (by rw [lAD];exact hi),List.getElem_map]
  have:l[i]=m:=by rw [lAG hi] at h;injection h
  rw [this]
 rw [e];rfl
section
variable {X:z0B} {id:Nat}
theorem y0t {l:List Way} {caps:List AV} {p:Way→Bool} {g:FuncId} (hg:X[id]? =some (.cells (z0d (l.map z1z)))) (hn:l.length≤1000000) (hb:hasBody PP g=true) (hcl:∀ v∈l,z0C PP g (z1z v::caps) X (z1D X (.bool (p v)))) :
  z0C PP 166 [.sl id 0 l.length 2,.clo (.func g) [] caps] X (z1D X (.int .i64 (zNS (l.findIdx? p)))):=by
 refine zSr.c2 z0P mixed rfl ?_
 rw [lAJ]
 refine z0A ?_
 refine z0H l.length (fun i al H'=>al=[(0,.sl id 0 l.length 2),(1,.clo (.func g) [] caps),(7,.int .i64 l.length),(8,.int .i64 i)]∧H'=X∧∀ k c,k<i→l[k]? =some c→p c=false) ⟨rfl,rfl,by omega⟩ ?_
 rintro i _ V hi ⟨rfl,rfl,v1⟩
 have e1:decide ((i:Int)<(l.length:Int))=decide (i<l.length):=by simp only [lAP];omega
 refine z0A ?_
 rw [e1]
 cases hc:decide (i<l.length)
 ·simp only [lAC] at hc
  have:l.findIdx? p=none:=by
   rw [lB5]
   intro x hx
   obtain ⟨k,hk,rfl⟩:=lC0 hx
   exact v1 k _ (by omega) (lAG hk)
  rw [this]
  refine z0A ?_
  exact z0W rfl ⟨rfl,rfl⟩
 simp only [lAE] at hc
 obtain ⟨m,hm⟩:=z0M (l:=l) (i:=i) hc
 have k:=hcl m (lAF hm)
 refine z0A ?_
 refine z1s (v:=.agg [.int .i64 m.1,.int .i64 m.2]) rfl hg (zLu hm) ?_
 refine z3V rfl hb k ?_
 cases hp:p m
 ·refine z0A ?_
  refine ⟨by omega,rfl,rfl,fun k c hk hc2=>?_⟩
  rcases lCL.1 hk with h | h
  ·exact v1 k c h hc2
  ·subst h;rw [hm] at hc2;injection hc2 with hc2;rw [←hc2];exact hp
 ·have:l.findIdx? p=some i:=by
   rw [lBU]
   refine ⟨by omega,?_,?_⟩
   ·rw [lAG (by omega)] at hm;injection hm with hm;rw [hm];exact hp
   ·intro j hj;rw [v1 j _ hj (lAG (by omega))];simp
  rw [this]
  refine z0A ?_
  exact z0W rfl ⟨rfl,rfl⟩
theorem a138 {l:List Way} {caps:List AV} {p:Way→Bool} {g:FuncId} (hg:X[id]? =some (.cells (z0d (l.map z1z)))) (hn:l.length≤100000) (hb:hasBody PP g=true)
  (hcl:∀ m∈l,∀ H':z0B,(∀ (j:Nat) (b:Blk),j≠id→X[j]? =some b→H'[j]? =some b)→z0C PP g (z1z m::caps) H' (z1D H' (.bool (p m)))) :
  z0C PP 98 [.sl id 0 l.length 2,.clo (.func g) [] caps] X (fun r H'=>∃ cs,r=.ret (.sl id 0 (l.filter fun m=>!p m).length 2)∧H'[id]? =some (.cells cs)∧cs.take ((l.filter fun m=>!p m).length*2)=z0d ((l.filter fun m=>!p m).map z1z)∧(l.filter fun m=>!p m).length*2≤cs.length ∧
   (∀ (j:Nat) (b:Blk),j≠id→X[j]? =some b→H'[j]? =some b)∧X.length≤H'.length):=by
 refine is98.c2 z0P mixed rfl ?_
 rw [lAJ]
 have hid:=(lAA.1 hg).1
 refine z0A ?_
 refine z0J rfl (y0t hg (by omega) hb fun m hm=>hcl m hm X fun _ _ _ h=>h) ?_
 cases hf:l.findIdx? p with
 | none =>
  have hall:l.filter (fun m=>!p m)=l:=by
   rw [lB5] at hf
   rw [lEA]
   intro a ha
   simp [hf a ha]
  rw [hall]
  have e1:((-1:Int) == -1)=true:=rfl
  unfold zNS
  refine z0A ?_
  exact z0W rfl ⟨_,rfl,hg,by rw [←z8A,lAW],by rw [z8A];omega,fun _ _ _ h=>h,lAL _⟩
 | some i0 =>
  rw [lBU] at hf
  obtain ⟨hi0,hp0,hlt⟩:=hf
  have e1:((i0:Int) == -1)=false:=by simp
  unfold zNS
  refine z0A ?_
  refine z0H (l.length-(i0+1)) (fun q al W=>∃ mid:List Way,al=[(0,.sl id 0 l.length 2),(1,.clo (.func g) [] caps),(5,.int .i64 ((l.take (i0+1+q)).filter fun m=>!p m).length),(6,.int .i64 (i0+1+q:Nat))]∧((l.take (i0+1+q)).filter fun m=>!p m).length+mid.length=i0+1+q∧mid≠[] ∧
   W[id]? =some (.cells (z0d ((((l.take (i0+1+q)).filter fun m=>!p m)++mid++l.drop (i0+1+q)).map z1z)))∧(∀ (j:Nat) (b:Blk),j≠id→X[j]? =some b→W[j]? =some b)∧X.length≤W.length) ?_ ?_
  ·have hk0:(l.take (i0+1)).filter (fun m=>!p m)=l.take i0:=by
    rw [lA1,lAG hi0,lCV]
    have h1:(l.take i0).filter (fun m=>!p m)=l.take i0:=by
     rw [lEA]
     intro a ha
     obtain ⟨k,hk,rfl⟩:=lBW.1 ha
     rw [lBR] at hk
     rw [List.getElem_take]
     have:=hlt k (by omega)
     simpa using this
    rw [h1]
    simp [hp0]
   refine ⟨[l[i0]],?_,?_,by simp,?_,fun _ _ _ h=>h,lAL _⟩
   ·rw [lCJ,hk0,lBR,lDS (by omega)];rfl
   ·rw [lCJ,hk0,lBR,lDS (by omega)];rfl
   ·rw [lCJ,hk0,lA3,List.singleton_append,←lBQ hi0,lC1]
    exact hg
  rintro q _ W hq ⟨mid,rfl,hml,hmne,wg,wo,wl⟩
  have e2:decide (((i0+1+q:Nat):Int)<(l.length:Int))=decide (i0+1+q<l.length):=by simp only [lAP];omega
  generalize hj:i0+1+q=j at *
  have hwid:=(lAA.1 wg).1
  refine z0A ?_
  rw [e2]
  cases hc:decide (j<l.length)
  rotate_left
  ·simp only [lAE] at hc
   obtain ⟨m,hm⟩:=z0M (l:=l) (i:=j) hc
   have hdr:l.drop j=m::l.drop (j+1):=by
    rw [lBQ hc]
    rw [lAG hc] at hm
    injection hm with hm
    rw [hm]
   have hsn:=z8q (q:=fun m=>!p m) hm
   have hgm:(((l.take j).filter fun m=>!p m)++mid++l.drop j)[j]? =some m:=by
    rw [lAM (by rw [lAH];omega),lAH,hml,lBG,hdr];rfl
   have hkl:((l.take j).filter fun m=>!p m).length≤l.length:=by omega
   generalize hK:(l.take j).filter (fun m=>!p m)=kept at *
   refine z0A ?_
   refine z1s (v:=.agg [.int .i64 m.1,.int .i64 m.2]) rfl wg (zLu hgm) ?_
   refine z0A ?_
   refine z0z (ws:=[.int .i64 m.1,.int .i64 m.2]) rfl rfl rfl rfl rfl rfl ?_
   have y7:(W++[Blk.cells [.int .i64 m.1,.int .i64 m.2]])[W.length]? =some (.cells [.int .i64 m.1,.int .i64 m.2]):=z0E
   have yg:=z0G (G:=[Blk.cells [.int .i64 m.1,.int .i64 m.2]]) wg
   have yo:∀ (j:Nat) (b:Blk),j≠id→X[j]? =some b→(W++[Blk.cells [.int .i64 m.1,.int .i64 m.2]])[j]? =some b:=fun j b h1 h2=>z0G (wo j b h1 h2)
   have yl:(W++[Blk.cells [.int .i64 m.1,.int .i64 m.2]]:z0B).length=W.length+1:=by simp
   generalize (W++[Blk.cells [.int .i64 m.1,.int .i64 m.2]]:z0B)=Y at *
   generalize W.length=b7 at *
   have k:=hcl m (lAF hm) Y yo
   refine z0A ?_
   refine z3V rfl hb k ?_
   cases hp:p m
   ·rw [hp] at hsn
    have hne:(!false)=true:=rfl
    rw [if_pos hne] at hsn
    obtain ⟨a,mid',rfl⟩:∃ a mid',mid=a::mid':=by
     cases mid with
     | nil=>exact absurd rfl hmne
     | cons a b=>exact ⟨a,b,rfl⟩
    have hset:(kept++(a::mid')++l.drop j).set kept.length m=(kept++[m])++(mid'++[m])++l.drop (j+1):=by
     rw [lA3,lA6 _ _ (lAL _),lBG,hdr]
     simp
    have hkj:kept.length<(kept++(a::mid')++l.drop j).length:=by simp
    have hsa:=zCn (sz:=2) (i:=kept.length) (x:=z1z m) (z2y (l:=kept++(a::mid')++l.drop j)) (by rw [lAD];exact hkj) rfl
    have hms:((kept++(a::mid')++l.drop j).map z1z).set kept.length (z1z m)=((kept++[m])++(mid'++[m])++l.drop (j+1)).map z1z:=by rw [←hset,List.map_set]
    rw [hms] at hsa
    have hwl2:=z8A (kept++(a::mid')++l.drop j)
    have hsa2:z3B (z0d ((kept++(a::mid')++l.drop j).map z1z)) (0+kept.length*2) (AV.agg [.int .i64 m.1,.int .i64 m.2]).cells=z0d (((kept++[m])++(mid'++[m])++l.drop (j+1)).map z1z):=by rw [lBH];exact hsa
    refine z0A ?_
    refine z0h (.agg [.int .i64 m.1,.int .i64 m.2]) rfl rfl yg ?_ hsa2 rfl ?_
    ·simp only [AV.shaped,AV.cells,lBC,lC5,lBH]
     have:decide (kept.length*2+(1+1)≤(z0d ((kept++(a::mid')++l.drop j).map z1z)).length)=true:=by rw [lAE,hwl2];omega
     first | (rw [this];rfl) | simpa using this
    refine z0A ?_
    refine ⟨by omega,mid'++[m],?_,?_,by simp,?_,fun j b h1 h2=>z0K (yo j b h1 h2) (fun e=>h1 e.symm),by simp;omega⟩
    ·rw [show i0+1+(q+1)=j+1 by omega,hsn,lAH];rfl
    ·rw [show i0+1+(q+1)=j+1 by omega,hsn]
     simp only [lAH,lBC,lC5] at hml ⊢
     omega
    ·rw [show i0+1+(q+1)=j+1 by omega,hsn]
     exact lAT (by omega)
   ·rw [hp] at hsn
    rw [if_neg (by simp),lAJ] at hsn
    refine z0A ?_
    refine ⟨by omega,mid++[m],?_,?_,by simp,?_,yo,by omega⟩
    ·rw [show i0+1+(q+1)=j+1 by omega,hsn];rfl
    ·rw [show i0+1+(q+1)=j+1 by omega,hsn,lAH,lBZ];omega
    ·rw [show i0+1+(q+1)=j+1 by omega,hsn,yg,hdr]
     simp
  ·simp only [lAC] at hc
   have htk:l.take j=l:=lAQ (by omega)
   have hdr:l.drop j=[]:=lDC (by omega)
   rw [htk] at wg hml ⊢
   rw [hdr,lAJ] at wg
   generalize hK:l.filter (fun m=>!p m)=kept at *
   have hjl:j=l.length:=by omega
   have hmp:0<mid.length:=lDX.2 hmne
   have hwl2:=z8A (kept++mid)
   rw [lAH] at hwl2
   have hb1:z2R l.length true false [.int .i64 kept.length]=some (kept.length,l.length):=zBu (by omega)
   have hb2:z2R l.length false true [.int .i64 kept.length]=some (0,kept.length):=z8u (by omega)
   have hne:(kept.length==l.length)=false:=by rw [beq_eq_false_iff_ne];omega
   have hcl2:(z1C (l.length-kept.length) [AV.int .i64 0,.int .i64 0]).length=(l.length-kept.length)*2:=by
    generalize l.length-kept.length=z
    induction z with
    | zero=>rfl
    | succ z ih =>
     have:z1C (z+1) [AV.int .i64 0,.int .i64 0]=AV.int .i64 0::.int .i64 0::z1C z [AV.int .i64 0,.int .i64 0]:=rfl
     rw [this,lBC,lBC,ih];omega
   have hspl:=(z4E (i:=kept.length) (z2y (l:=kept++mid)) (by simp)).2
   have htk2:((kept++mid).map z1z).take kept.length=kept.map z1z:=by rw [lBE,lCG (by simp)];rw [lAQ (by simp)]
   rw [htk2] at hspl
   refine z0A ?_
   refine z2K (v:=.sl id (0+kept.length*2) (l.length-kept.length) 2) ?_ ?_
   ·show z3g 2 true false (.sl id 0 l.length 2) [.int .i64 kept.length]=_
    simp only [z3g,if_true,hb1,hne,lD6,lAX,if_false]
   refine zKf (v:=.top) (H':=W.set id (.cells (z3B (z0d ((kept++mid).map z1z)) (0+kept.length*2) (z1C (l.length-kept.length) [AV.int .i64 0,.int .i64 0])))) ?_ ?_
   ·show zGq (.clearSl 2 [.int .i64 0,.int .i64 0]) [.sl id (0+kept.length*2) (l.length-kept.length) 2] W W.length=_
    simp only [zGq,if_true,wg]
    rw [if_pos]
    rw [lAS,lAE]
    exact ⟨by rw [hwl2];omega,rfl⟩
   refine z0A ?_
   refine z2K (v:=.sl id 0 kept.length 2) ?_ ?_
   ·show z3g 2 false true (.sl id 0 l.length 2) [.int .i64 kept.length]=_
    simp only [z3g,if_true,hb2,lD0,lAX,if_false]
    rfl
   refine z0A ?_
   refine z0W rfl ⟨_,rfl,lAT hwid,?_,?_,fun j b h1 h2=>z0K (wo j b h1 h2) (fun e=>h1 e.symm),by simpa using wl⟩
   ·unfold z3B
    rw [lBH,lA3,lCG (by rw [lBR,hwl2];omega),List.take_take,Nat.min_self]
    exact hspl
   ·unfold z3B
    rw [lBH,lAH,lAH,lBR,hwl2]
    omega
end
end Go.Ab
