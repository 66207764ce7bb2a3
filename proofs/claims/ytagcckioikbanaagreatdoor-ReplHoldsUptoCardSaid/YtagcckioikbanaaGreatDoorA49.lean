/- Part 49 of the proof. -/
import Derived.Test.YtagcckioikbanaaGreatDoorA47
import Derived.Test.YtagcckioikbanaaGreatDoorA48
set_option linter.unusedVariables false
set_option linter.unusedSimpArgs false
namespace Go.Ab
open Go
set_option maxRecDepth 100000
set_option maxHeartbeats 16000000
def z8z (kind:Int) (below:Bool) (ps:List (Bt × Bt)) (fs gs:List (Bt→Bool)) (a b:Bt) (t:Pt):List Way :=
 if below then z5n kind (z5a ps) (zPX ps fs gs (b.take t.2.1) a t.1) t.1
 else if kind=0 then zFu (z2s ps fs gs a) t.1 t.2.2
 else if kind=1 then zRX (z2s ps fs gs a) t.1
 else z5n kind (z5a ps) ((z2s ps fs gs a).getD t.1 []) t.1
def z2j (ps:List (Bt × Bt)) (a:Bt) (t:Pt) (m:Way):Bt:=if m.1<0 then sub a t.1 (t.1+1) else (ps.getD m.1.toNat ([],[])).2
def zEj (b:Bt) (d:Nat) (w:Bt):Bool:=decide (w.length≤b.length-d)&&(sub b d (d+w.length)==w)
def goP (ps:List (Bt × Bt)) (a:Bt) (t:Pt) (m:Way):Pt:=(m.2,t.2.1+(z2j ps a t m).length,if m.1<0 then t.2.2 else m.2)
def zFr (kind:Int) (below:Bool) (ps:List (Bt × Bt)) (fs gs:List (Bt→Bool)) (a b:Bt) (t:Pt):List Pt :=
 ((z8z kind below ps fs gs a b t).filter fun m=>zEj b t.2.1 (z2j ps a t m)).map (goP ps a t)
def zJt (kind:Int) (below:Bool) (ps:List (Bt × Bt)) (fs gs:List (Bt→Bool)) (a b:Bt):Bool :=
 bfs (zFr kind below ps fs gs a b) (fun t=>t.1==a.length) (fun t=>t.2.1==b.length) (z5X a.length b.length) [(0,0,0)] 0
structure WayOk (ps:List (Bt × Bt)) (a:Bt) (t:Pt) (m:Way):Prop where
 fi:m.1<0∨∃ n:Nat,m.1=n∧n<ps.length
 hi:m.2≤a.length
 lo:t.1≤m.2
theorem zAw:∀ {l:List Pt},∀ x∈l.map stA,x.cells.length=3:=fun x hx=>by
 obtain ⟨t,_,rfl⟩:=lBB.1 hx
 rfl
theorem zGm {ps:List (Bt × Bt)} {fs gs:List (Bt→Bool)} {a w:Bt} {p:Nat} (hp:p≤a.length):∀ q∈(atP ps fs gs w (a.drop p)).map (fun n=>(n,p+z5a ps n)),q.1<ps.length∧q.2≤a.length∧p≤q.2:=by
 intro q hq
 obtain ⟨n,hn,rfl⟩:=lBB.1 hq
 have h1:=lA8.1 (lBT.1 hn).1
 have h2:=(lBT.1 hn).2
 unfold zLj zTH at h2
 simp only [lAS,lAE,lDB] at h2
 have h3:=h2.1.1
 refine ⟨h1,?_,by simp only;omega⟩
 simp only
 unfold z5a
 omega
theorem zPc {kind:Int} {below:Bool} {ps:List (Bt × Bt)} {fs gs:List (Bt→Bool)} {a b:Bt} {t:Pt} (ht:t.1<a.length):∀ m∈z8z kind below ps fs gs a b t,WayOk ps a t m:=by
 have hrow:(z2s ps fs gs a).getD t.1 []=(atP ps fs gs (a.take t.1) (a.drop t.1)).map (fun n=>(n,t.1+z5a ps n)):=by
  unfold z2s
  rw [lAB,lAK,lCF ht];rfl
 have h0:∀ l:List (Nat × Nat),(∀ q∈l,q.1<ps.length∧q.2≤a.length∧t.1≤q.2)→∀ m∈l.map z1K,WayOk ps a t m:=fun l hl m hm=>by
  obtain ⟨q,hq,rfl⟩:=lBB.1 hm
  obtain ⟨h1,h2,h3⟩:=hl q hq
  exact ⟨.inr ⟨q.1,rfl,h1⟩,h2,h3⟩
 have hstay:∀ m∈[((-1:Int),t.1+1)],WayOk ps a t m:=fun m hm=>by
  rw [lAR] at hm
  subst hm
  exact ⟨.inl (show (-1:Int)<0 by decide),by simp only;omega,by simp only;omega⟩
 have hleft:∀ (kind:Int) (l:List (Nat × Nat)),(∀ q∈l,q.1<ps.length∧q.2≤a.length∧t.1≤q.2)→∀ m∈z5n kind (z5a ps) l t.1,WayOk ps a t m:=fun kind l hl m hm=>by
  unfold z5n at hm
  split at hm
  ·exact hstay m hm
  ·exact h0 _ (fun q hq=>hl q (lBT.1 hq).1) m hm
 intro m hm
 unfold z8z at hm
 split at hm
 ·exact hleft _ _ (zGm (by omega)) m hm
 ·have hr:=zGm (ps:=ps) (fs:=fs) (gs:=gs) (w:=a.take t.1) (p:=t.1) (a:=a) (by omega)
  rw [←hrow] at hr
  split at hm
  ·unfold zFu at hm
   rcases lA5.1 hm with hm | hm
   ·exact h0 _ hr m hm
   ·split at hm
    ·cases hm
    ·exact hstay m hm
  ·split at hm
   ·unfold zRX at hm
    rcases lA5.1 hm with hm | hm
    ·exact h0 _ hr m hm
    ·exact hstay m hm
   ·exact hleft _ _ hr m hm
theorem zTF {ps:List (Bt × Bt)} {a b:Bt} {t:Pt} {m:Way} (hb:InB a.length b.length t) (hm:WayOk ps a t m) (hf:zEj b t.2.1 (z2j ps a t m)=true):InB a.length b.length (goP ps a t m):=by
 obtain ⟨b1,b2,b3⟩:=hb
 obtain ⟨m1,m2,m3⟩:=hm
 unfold zEj at hf
 simp only [lAS,lAE] at hf
 have:=hf.1
 unfold goP
 refine ⟨m2,by simp only;omega,?_⟩
 simp only
 split<;>omega
theorem zFN {ps:List (Bt × Bt)} {fs gs:List (Bt→Bool)} {a:Bt}:∀ l∈z2s ps fs gs a,l.length≤ps.length∧∀ q∈l,q.1<ps.length:=by
 intro l hl
 unfold z2s at hl
 obtain ⟨p,hp,rfl⟩:=lBB.1 hl
 unfold z8w
 refine ⟨by rw [lAD];exact z3X _ _,fun q hq=>?_⟩
 obtain ⟨n,hn,rfl⟩:=lBB.1 hq
 exact lA8.1 (lBT.1 hn).1
theorem zLt {kind:Int} {below:Bool} {ps:List (Bt × Bt)} {fs gs:List (Bt→Bool)} {a b:Bt} {t:Pt} (ht:t.1<a.length):(z8z kind below ps fs gs a b t).length≤ps.length+1:=by
 have hrl:((z2s ps fs gs a).getD t.1 []).length≤ps.length:=by
  unfold z2s
  rw [lAB,lAK,lCF ht]
  simp only [lBN,lCY]
  unfold z8w
  rw [lAD];exact z3X _ _
 have hleft:∀ (kind:Int) (l:List (Nat × Nat)),l.length≤ps.length→(z5n kind (z5a ps) l t.1).length≤ps.length+1:=fun kind l hl=>by
  unfold z5n
  split
  ·simp
  ·rw [lAD]
   have:=lCD (fun q:Nat × Nat=>(z2c kind (z5a ps) (l.map Prod.fst)).any fun n=>(q.1:Int)==(n:Int)) l
   omega
 unfold z8z
 split
 ·refine hleft _ _ ?_
  unfold zPX
  rw [lAD];exact z3X _ _
 ·split
  ·unfold zFu
   generalize (z2s ps fs gs a).getD t.1 []=row at *
   rw [lAH,lAD]
   split
   ·simp;omega
   ·simp;omega
  ·split
   ·unfold zRX
    generalize (z2s ps fs gs a).getD t.1 []=row at *
    rw [lAH,lAD];simp;omega
   ·exact hleft _ _ hrl
theorem a40w {ps:List (Bt × Bt)} {a:Bt} {t:Pt} {m:Way} (H:z0B):z0C PP 25 [.agg [.int .i64 t.1,.int .i64 t.2.2],fv m.1 m.2] H (z1D H (.agg [.int .i64 (goP ps a t m).1,.int .i64 (goP ps a t m).2.2])):=a40 H
theorem zYT {Q:PL} {Y:z0B} {ps:List (Bt × Bt)} {a w:Bt} {t:Pt} {m:Way} {b18 b21:Nat} {v4 v11 v12 v13 v14 tv u v17 u2 v98 v99 v130:AV}
  (y18:Y[b18]? =some (.cells [.int .i64 t.1,.int .i64 t.2.2,.int .i64 t.2.1])) (y21:Y[b21]? =some (.cells [.int .i64 m.1,.int .i64 m.2])) (hwr:z2j ps a t m=w) (hb:t.2.1+w.length≤1000000)
  (h:Q .normal [(4,v4),(11,v11),(12,v12),(13,v13),(14,v14),(15,tv),(16,u),(17,v17),(18,.ptr b18 0),(23,.ptr Y.length 0),(97,u2),(98,v98),(99,v99)] (Y++[.cells [.int .i64 (goP ps a t m).1,.int .i64 (goP ps a t m).2.2,.int .i64 (goP ps a t m).2.1]])) :
  WI PP (IC.draw 1 [{ dst:=some 131,op:=AOp.i (IOp.d (DOp.fieldAddr 0)),args:=[Arg.tmp 18],guard:=none,res:=none },{ dst:=some 132,op:=AOp.i (IOp.m (MOp.load (some 2))),args:=[Arg.tmp 131],guard:=none,res:=none },{ dst:=some 133,op:=AOp.i (IOp.m (MOp.load (some 2))),args:=[Arg.tmp 21],guard:=none,res:=none },{ dst:=some 134,op:=AOp.callF 25,args:=[Arg.tmp 132,Arg.tmp 133],guard:=none,res:=none },{ dst:=some 135,op:=AOp.i (IOp.d (DOp.fieldAddr 2)),args:=[Arg.tmp 18],guard:=none,res:=none },{ dst:=some 136,op:=AOp.i (IOp.m (MOp.load none)),args:=[Arg.tmp 135],guard:=none,res:=none },{ dst:=some 137,op:=AOp.i (IOp.d DOp.move),args:=[Arg.tmp 22],guard:=none,res:=none },{ dst:=some 138,op:=AOp.i (IOp.d DOp.lenStr),args:=[Arg.tmp 137],guard:=none,res:=none },{ dst:=some 139,op:=AOp.i (IOp.d (DOp.bin BinOp.add)),args:=[Arg.tmp 136,Arg.tmp 138],guard:=none,res:=none },{ dst:=some 140,op:=AOp.i (IOp.d (DOp.build [AV.int IntKind.i64 0,AV.int IntKind.i64 0,AV.int IntKind.i64 0] [(0,2),(2,1)])),args:=[Arg.tmp 134,Arg.tmp 139],guard:=none,res:=none },{ dst:=some 23,op:=AOp.i (IOp.m (MOp.alloc [AV.int IntKind.i64 0,AV.int IntKind.i64 0,AV.int IntKind.i64 0])),args:=[],guard:=none,res:=some 0 },{ dst:=none,op:=AOp.i (IOp.m (MOp.store 3)),args:=[Arg.tmp 23,Arg.tmp 140],guard:=none,res:=none }] [[],[0],[],[0,1,2],[],[4],[],[6],[4,5,6,7],[0,1,2,3,4,5,6,7,8],[],[0,1,2,3,4,5,6,7,8,9,10]] (Sched.quiet 0 (Sched.quiet 1 (Sched.quiet 2 (Sched.quiet 4 (Sched.quiet 5 (Sched.quiet 6 (Sched.quiet 7 (Sched.quiet 8 (Sched.branch 3 (Sched.quiet 9 (Sched.branch 10 (Sched.branch 11 Sched.done Sched.stop) Sched.stop)) (Sched.branch 10 (Sched.branch 3 (Sched.quiet 9 (Sched.branch 11 Sched.done Sched.stop)) Sched.stop) Sched.stop)))))))))) (some [4,11,12,13,14,15,16,17,18,23,97,98,99])) Q [(4,v4),(11,v11),(12,v12),(13,v13),(14,v14),(15,tv),(16,u),(17,v17),(18,.ptr b18 0),(21,.ptr b21 0),(22,.str w),(97,u2),(98,v98),(99,v99),(130,v130)] Y:=by
 have p18:=z0G (G:=[Blk.resv]) y18
 have p21:=z0G (G:=[Blk.resv]) y21
 have h18:=(lAA.1 y18).1
 have h21:=(lAA.1 y21).1
 have h1:(goP ps a t m).2.1=t.2.1+w.length:=by unfold goP;rw [hwr]
 have hset:∀ b,(Y++[Blk.resv]).set Y.length b=Y++[b]:=fun b=>by
  rw [lA6 _ _ (lAL _),lBG];rfl
 have hset2:∀ b c,(Y++[(b:Blk)]).set Y.length c=Y++[c]:=fun b c=>by
  rw [lA6 _ _ (lAL _),lBG];rfl
 refine zGE (z2D [b18,b21]) ?_
 refine z0A ?_
 refine z1N (a:=t.2.1) (b:=w.length) rfl rfl (by omega) ?_
 refine z3q ?_
 have hx3:z4T [.int .i64 0,.int .i64 0,.int .i64 0] [(0,2),(2,1)] [.agg [.int .i64 (goP ps a t m).1,.int .i64 (goP ps a t m).2.2],.int .i64 (t.2.1+w.length:Nat)]=some [.int .i64 (goP ps a t m).1,.int .i64 (goP ps a t m).2.2,.int .i64 (goP ps a t m).2.1]:=by rw [h1];rfl
 refine z9A ?_ ?_
 ·refine z8C rfl rfl (by simp) ?_
  refine z0J rfl (a40w (ps:=ps) (a:=a) (t:=t) (m:=m) _) ?_
  refine z0j (fun _ _ _ _ q=>q) ?_
  refine zYm rfl rfl (fun _ _ _ h=>by cases h) ?_
  refine z0s rfl hx3 ?_
  refine z3q ?_
  refine zYk (k:=0) rfl z0E (z0c fun j hj b hb'=>z0K hb' ?_) ?_
  ·simp only [lAV,lA7,or_false] at hj
   rcases hj with rfl | rfl<;>simp<;>omega
  rw [lCJ,hset]
  refine z8C rfl rfl (by simp) ?_
  refine z0h (.agg [.int .i64 (goP ps a t m).1,.int .i64 (goP ps a t m).2.2,.int .i64 (goP ps a t m).2.1]) rfl rfl z0E rfl rfl (hset2 _ _) ?_
  refine z0j (z0c fun j hj b hb'=>?_) ?_
  ·simp only [lAV,lA7,or_false] at hj
   rw [lAN (by rcases hj with rfl | rfl<;>assumption)] at hb' ⊢
   exact hb'
  exact zEq rfl h
 ·skip
  refine zYk (k:=0) rfl z0E (z0c fun j hj b hb'=>z0K hb' ?_) ?_
  ·simp only [lAV,lA7,or_false] at hj
   rcases hj with rfl | rfl<;>simp<;>omega
  rw [lCJ,hset]
  refine z8C rfl rfl (by simp) ?_
  refine z0J rfl (a40w (ps:=ps) (a:=a) (t:=t) (m:=m) _) ?_
  refine z0j (fun _ _ _ _ q=>q) ?_
  refine zYm rfl rfl (fun _ _ _ h=>by cases h) ?_
  refine z0s rfl hx3 ?_
  refine z3q ?_
  refine z8C rfl rfl (by simp) ?_
  refine z0h (.agg [.int .i64 (goP ps a t m).1,.int .i64 (goP ps a t m).2.2,.int .i64 (goP ps a t m).2.1]) rfl rfl z0E rfl rfl (hset2 _ _) ?_
  refine z0j (z0c fun j hj b hb'=>?_) ?_
  ·simp only [lAV,lA7,or_false] at hj
   rw [lAN (by rcases hj with rfl | rfl<;>assumption)] at hb' ⊢
   exact hb'
  exact zEq rfl h
structure HoldOk (sg:List Bt) (r:Ru) (x y:List Bt):Prop where
 ru:RuOk sg r
 kd:r.kind=0∨r.kind=1∨r.kind=2∨r.kind=3
 xi:∀ t∈x,t∈sg
 xl:x.length≤60
 yl:y.length≤60
 asc:zDV sg
 sn:sg.length≤256
def zBY (r:Ru) (sg:List Bt) (x y:List Bt):Bool × Int :=
 if zLk r sg [x,y] != 0 then (false,zLk r sg [x,y]) else if !(y.all fun t=>decide (t∈sg)) then (false,0) else
  (zJt r.kind r.below (r.pairs.map (z2G sg)) (z5T sg (z0a r)) (z2J sg (z0a r)) (x.map (mu sg)) (y.map (mu sg)),0)
theorem a39w {pv av bv:AV} {ps:List (Bt × Bt)} {a:Bt} {t:Pt} {m:Way} (hs:Sl 2 pv (ps.map z4k)) (hm:WayOk ps a t m) (ht:t.1<a.length) (ha:a.length≤1000000) (H:z0B) :
  z0C PP 24 [.cptr [pv,av,bv],fv m.1 m.2,.str a,.int .i64 t.1] H (z1D H (.str (z2j ps a t m))):=by
 unfold z2j
 rcases hm.fi with h | ⟨n,h,hn⟩
 ·rw [if_pos h]
  exact a39s h ht ha H
 ·rw [if_neg (by omega),h]
  obtain ⟨⟨f,w⟩,hp⟩:=z0M (l:=ps) (i:=n) hn
  have:(ps.getD ((n:Int)).toNat ([],[])).2=w:=by rw [lDQ,lAB,hp];rfl
  rw [this]
  exact a39p hs hp H
section
variable {D:Nat→Bt→Bool} {aid mid:Nat} {H:z0B}
theorem zLD {pv av bv:AV} {ps:List (Bt × Bt)} {fs gs:List (Bt→Bool)} {a b:Bt} {kind:Int} {rv:AV} {t:Pt} (hs:Sl 2 pv (ps.map z4k)) (hpl:∀ p∈ps,p.1.length≤1000000) (hps:ps.length≤1000) (hr:Sl 1 rv ((z2s ps fs gs a).map z4Z)) (ha:a.length≤100000) (ht:t.1<a.length) (ht3:t.2.2≤t.1) (hk:kind=0∨kind=1∨kind=2∨kind=3) (W:z0B) :
  ∃ (g:FuncId) (r:Nat),hasBody PP g=true∧z2p ⟨false,[.int]⟩ (.int .i64 kind) [(.int .i64 0,.clo (.func 55) [] [],0),(.int .i64 1,.clo (.func 56) [] [],1),(.int .i64 2,.clo (.func 57) [] [],2),(.int .i64 3,.clo (.func 58) [] [],3)] 0=some (some r) ∧
   z9Z .nilfunc false ((some r).map fun i=>(([(.int .i64 0,.clo (.func 55) [] [],0),(.int .i64 1,.clo (.func 56) [] [],1),(.int .i64 2,.clo (.func 57) [] [],2),(.int .i64 3,.clo (.func 58) [] [],3)]:z3T).getD i (.top,.top,0)).2.1)=.clo (.func g) [] [] ∧
   ∃ u,Sl 2 u ((z8z kind false ps fs gs a b t).map z1z)∧z0C PP g [.cptr [pv,av,bv],rv,.agg [.int .i64 t.1,.int .i64 t.2.2]] W (z1D W u):=by
 have hlen:(z2s ps fs gs a).length=a.length:=by simp [z2s]
 have hll:∀ l∈z2s ps fs gs a,l.length≤100000:=fun l hl=>by have:=(zFN l hl).1;omega
 have hn:∀ l∈z2s ps fs gs a,∀ q∈l,q.1<ps.length:=fun l hl=>(zFN l hl).2
 rcases hk with rfl | rfl | rfl | rfl
 ·exact ⟨55,0,zZZ.hasBody,rfl,rfl,z5b (zFu (z2s ps fs gs a) t.1 t.2.2),zDh _,a78 hr (by omega) ht3 (by omega) hll⟩
 ·exact ⟨56,1,zZY.hasBody,rfl,rfl,z5b (zRX (z2s ps fs gs a) t.1),zDh _,a79 hr (by omega) (by omega) hll⟩
 ·exact ⟨57,2,zZX.hasBody,rfl,rfl,_,.list _,a80 hs hr hn hpl (by omega) (by omega) hll⟩
 ·exact ⟨58,3,zZW.hasBody,rfl,rfl,_,.list _,a81 hs hr hn hpl (by omega) (by omega) hll⟩
end
theorem y0p {xv yv:AV} {xs ys:List AV} (hx:Sl 1 xv xs) (hy:Sl 1 yv ys):z4T (if 2*1=0 then [] else z1C 2 [.nilslice]) [(0,1),(1,1)] [xv,yv]=some [xv,yv]:=by
 cases hx<;>cases hy<;>rfl
def z4U (ps:List (Bt × Bt)) (a b:Bt) (t:Pt) (ways:List Way):List Pt:=(ways.filter fun m=>zEj b t.2.1 (z2j ps a t m)).map (goP ps a t)
theorem zKT {ps:List (Bt × Bt)} {a b:Bt} {t:Pt} {ways:List Way} {z0g:List Pt} {k:Nat} {m:Way} (h:ways[k]? =some m) (hf:zEj b t.2.1 (z2j ps a t m)=true) :
  pushAll z0g (z4U ps a b t (ways.take (k+1)))=push (pushAll z0g (z4U ps a b t (ways.take k))) (goP ps a t m):=by
 unfold z4U
 rw [lA1,h]
 simp only [Option.toList,lCV,List.filter_cons,hf,if_true,List.filter_nil,lBE,lBA,lCU]
 unfold pushAll
 rw [lD2];rfl
theorem zEn {ps:List (Bt × Bt)} {a b:Bt} {t:Pt} {ways:List Way} {k:Nat} {m:Way} (h:ways[k]? =some m) (hf:zEj b t.2.1 (z2j ps a t m)=false) :
  z4U ps a b t (ways.take (k+1))=z4U ps a b t (ways.take k):=by
 unfold z4U
 rw [lA1,h]
 simp only [Option.toList,lCV,List.filter_cons,hf,List.filter_nil,lAJ,lAX,if_false]
theorem zQJ (b:Bool) (e:Int):z0N (.tuple [.bool b,.int .i64 e]):=z0N.tuple fun x hx=>by
 simp only [lAV,lA7,or_false] at hx
 rcases hx with rfl | rfl
 ·exact z0N.bool _
 ·exact z0N.int _ _
section
variable {r:Ru} {sv xv yv:AV} {sg x y:List Bt}
theorem a15 (hsv:Sl 1 sv (sg.map .str)) (hsw:okW sg) (hsn:sg.length≤1000000) (hx:Sl 1 xv (x.map .str)) (hy:Sl 1 yv (y.map .str)) (hxw:okW x) (hyw:okW y) (hxn:x.length≤1000000) (hyn:y.length≤1000000) (hr:okR2 r)
  (hgood:zLk r sg [x,y]=0→HoldOk sg r x y) (H:z0B):z0C PP 8 [z6F r,sv,xv,yv] H (z1D H (.tuple [.bool (zBY r sg x y).1,.int .i64 (zBY r sg x y).2])):=by
 refine z0C.plainE (zQJ _ _) ?_
 have hws:WsV (.list 1 [xv,yv]) [xv,yv] [x,y]:=⟨.list _,rfl,fun i v w h1 h2=>by
  match i with
  | 0 =>
   simp only [lAY,Option.some.injEq] at h1 h2
   subst h1;subst h2
   exact ⟨hx,hxw,hxn⟩
  | 1 =>
   simp only [lBD,lAY,Option.some.injEq] at h1 h2
   subst h1;subst h2
   exact ⟨hy,hyw,hyn⟩
  | i+2=>simp at h1,by simp⟩
 have hc2:∀ v∈[xv,yv],v.cells=[v]:=fun v hv=>by
  simp only [lAV,lA7,or_false] at hv
  rcases hv with rfl | rfl
  ·exact (z3b hx).2.1
  ·exact (z3b hy).2.1
 have k26:=fun H'=>a26 hsv hsw hsn hws hr H'
 have k36:=fun H'=>a36 hsv hy hsn hyn H'
 have k27:=fun (hg:HoldOk sg r x y) H'=>a27 hsv hg.asc hg.sn hg.ru H'
 obtain ⟨hx1,hx2,hx3⟩:=z3b hx
 obtain ⟨hy1,hy2,hy3⟩:=z3b hy
 have hsc:AV.scalar (z0T r.pn r.pairs)=true:=z1n _ _
 have hsc2:AV.scalar (z0U r.ln r.places)=true:=z1p _ _
 refine is8.c4 z0P mixed rfl ?_
 rw [lAJ]
 rw [z7r] at k26 k27 ⊢
 generalize z0T r.pn r.pairs=pv0 at *
 generalize z0U r.ln r.places=lv0 at *
 refine z1E (z0V ?_)
 refine z0y (.agg [.int .i64 r.kind,pv0,lv0,.bool r.below]) rfl (by simp only [AV.shaped,lB3,hsc,hsc2];first | done | rfl) ?_
 have x4:(H++[Blk.cells [.int .i64 r.kind,pv0,lv0,.bool r.below]])[H.length]? =some (.cells [.int .i64 r.kind,pv0,lv0,.bool r.below]):=z0E
 have xk:=zCE (H:=H).app [Blk.cells [.int .i64 r.kind,pv0,lv0,.bool r.below]]
 have xl:(H++[Blk.cells [.int .i64 r.kind,pv0,lv0,.bool r.below]]:z0B).length=H.length+1:=by simp
 show VV _ _ _ (H++[Blk.cells [.int .i64 r.kind,pv0,lv0,.bool r.below]]) _ _
 generalize (H++[Blk.cells [.int .i64 r.kind,pv0,lv0,.bool r.below]]:z0B)=X at *
 refine z0A ?_
 refine z0S (out:=[xv,yv]) (y0p hx hy) ?_
 refine z0L (R:=z1D ((X++[Blk.cells [xv,yv]]).set X.length .dead) (.int .i64 (zLk r sg [x,y]))) rfl (z0C.sealArgs (id:=X.length) (args':=[.agg [.int .i64 r.kind,pv0,lv0,.bool r.below],sv,.list 1 [xv,yv]]) z0E rfl (fun i=>?_) (k26 _)) ?_ ?_
 ·match i with
  | 0=>exact .refl _
  | 1=>exact .refl _
  | 2=>exact .sl 0 2 1 [xv,yv] rfl (fun v hv=>by rw [hc2 v hv];rfl) (by rw [z1J hc2];rfl) (by simp)
  | i+3=>exact .refl _
 rotate_left
 ·rintro u V' ⟨hu,_⟩
  cases hu
 rintro u V ⟨hu,rfl⟩
 cases hu
 have vk:AskMs [] H ((X++[Blk.cells [xv,yv]]).set X.length .dead):=(xk.app _).own (by omega) (fun p hp=>by cases hp)
 have v4:((X++[Blk.cells [xv,yv]]).set X.length .dead)[H.length]? =some (.cells [.int .i64 r.kind,pv0,lv0,.bool r.below]):=z0K (z0G x4) (by omega)
 generalize (X++[Blk.cells [xv,yv]]).set X.length .dead=Y at *
 clear x4 xk xl k26
 unfold zBY
 refine z0A ?_
 cases h1:(zLk r sg [x,y] != 0)
 rotate_left
 ·rw [if_pos rfl]
  refine z0A ?_
  exact z0W rfl (.inl ⟨_,rfl,rfl,vk⟩)
 rw [if_neg (by simp)]
 have hg:=hgood (by simpa using h1)
 refine z0A ?_
 refine z0J rfl (k36 _) ?_
 cases h2:y.all fun t=>decide (t∈sg)
 ·rw [if_pos (by simp)]
  refine z0A ?_
  exact z0W rfl (.inl ⟨_,rfl,rfl,vk⟩)
 rw [if_neg (by simp)]
 have hyi:∀ t∈y,t∈sg:=fun t ht=>by
  have:=lAZ.1 h2 t ht
  simpa using this
 have k29x:=fun H'=>a29 hsv hx hg.asc hg.sn hxn hg.xi H'
 have k29y:=fun H'=>a29 hsv hy hg.asc hg.sn hyn hyi H'
 have hxl:=hg.xl
 have hyl:=hg.yl
 have hkd:=hg.kd
 have hps:(r.pairs.map (z2G sg)).length≤1000:=by rw [lAD];exact hg.ru.np
 have hal:(x.map (mu sg)).length≤60:=by rw [lAD];exact hxl
 have hbl:(y.map (mu sg)).length≤60:=by rw [lAD];exact hyl
 generalize x.map (mu sg)=a at *
 generalize y.map (mu sg)=b at *
 refine z0A ?_
 refine z0L rfl (k27 hg Y) ?_ ?_
 rotate_left
 ·rintro u V' (⟨v,hu,_⟩ | ⟨p,_,hf⟩)
  ·cases hu
  ·exact hf.elim
 rintro u V (⟨v,hu,hold,pv,av,bv,cs,ds,aid,mid,hl,hin,hmid⟩ | ⟨p,hu,_⟩)
 rotate_left
 ·cases hu
 cases hu
 have hvk:AskMs [] H V:=⟨fun p hp=>(by cases hp),fun j b _ h=>hold j b (vk.old j b (fun p hp=>by cases hp) h),by
  rcases lBJ V.length H.length with h | h
  ·exfalso
   have:=(lAA.1 (hold _ _ v4)).1
   omega
  ·exact h⟩
 have w4:=hold _ _ v4
 have hmH:H.length<mid:=by have:=(lAA.1 v4).1;omega
 have hsp:=hl.sp
 have hpl:=hl.pl
 obtain rfl:=hl.eq
 generalize r.pairs.map (z2G sg)=ps at *
 generalize DT (zEf sg (z0a r))=D at *
 generalize z5T sg (z0a r)=fs at *
 generalize z2J sg (z0a r)=gs at *
 clear hmid k27 k36 hold v4 vk Y
 refine z0A ?_
 refine z0J rfl (k29x _) ?_
 refine z0A ?_
 refine z0J rfl (k29y _) ?_
 refine z0A ?_
 have hend:∀ W,z0m D mid V W→AskMs [] H W:=fun W hi=>⟨fun p hp=>(by cases hp),fun j b _ h=>hi.old (by have:=(lAA.1 h).1;omega) (hvk.old j b (fun p hp=>by cases hp) h),by have:=hi.len;have:=hvk.len;omega⟩
 have hmV:=hin.lt
 have hVH:=hvk.len
 refine zCY ?_
 refine z0s (out:=[.int .i64 0,.int .i64 0,.int .i64 0]) rfl rfl ?_
 refine z4j (key:=stA (0,0,0)) (v:=.bool true) (es:=[]) (c:=0) (r:=none) rfl rfl rfl z0E rfl rfl ?_
 have hup:(V++[Blk.map [] 0]).set V.length (zRx [] 0 (stA (0,0,0)) (.bool true) none)=V++[.map [(stA (0,0,0),.bool true,0)] 1]:=by
  rw [lA6 _ _ (lAL _),lBG];rfl
 rw [hup]
 have z10:(V++[Blk.map [(stA (0,0,0),.bool true,0)] 1])[V.length]? =some (.map [(stA (0,0,0),.bool true,0)] 1):=z0E
 have zk:=hin.app [Blk.map [(stA (0,0,0),.bool true,0)] 1]
 have zl:(V++[Blk.map [(stA (0,0,0),.bool true,0)] 1]:z0B).length=V.length+1:=by simp
 have zs:SeenV stA [(0,0,0)] [(stA (0,0,0),.bool true,0)]:=⟨fun e he=>by
  rw [lAR] at he
  exact ⟨_,lCQ _,0,he⟩,fun t ht=>⟨_,lCQ _,by rw [lAR.1 ht]⟩⟩
 generalize (V++[Blk.map [(stA (0,0,0),.bool true,0)] 1]:z0B)=Z at *
 clear hup
 refine z0A ?_
 refine z0s (out:=[.int .i64 0,.int .i64 0,.int .i64 0]) rfl rfl ?_
 refine z0S (out:=[.int .i64 0,.int .i64 0,.int .i64 0]) rfl ?_
 have y9:(Z++[Blk.cells [.int .i64 0,.int .i64 0,.int .i64 0]])[Z.length]? =some (.cells (z0d ([(0,0,0)].map stA))):=z0E
 have yk:=zk.app [Blk.cells [.int .i64 0,.int .i64 0,.int .i64 0]]
 have y10:=z0G (G:=[Blk.cells [.int .i64 0,.int .i64 0,.int .i64 0]]) z10
 have yo:z2h 3 V.length (Z++[Blk.cells [.int .i64 0,.int .i64 0,.int .i64 0]]) (.sl Z.length 0 1 3) ([((0,0,0):Pt)].map stA):=⟨zAw,.inr ⟨Z.length,rfl,y9,by omega,by simp⟩⟩
 have yl:(Z++[Blk.cells [.int .i64 0,.int .i64 0,.int .i64 0]]:z0B).length=V.length+2:=by simp;omega
 generalize (Z++[Blk.cells [.int .i64 0,.int .i64 0,.int .i64 0]]:z0B)=Y at *
 generalize AV.sl Z.length 0 1 3=tv at *
 clear y9 z10 zk zl Z
 refine z0A ?_
 refine z0L rfl (a28s (x:=a) (hl.to yk) (by omega) yk.self) ?_ ?_
 rotate_left
 ·rintro u V' (⟨v,hu,_⟩ | ⟨p,_,hf⟩)
  ·cases hu
  ·exact hf.elim
 rintro u W (⟨v,hu,hv,hin1⟩ | ⟨p,hu,_⟩)
 rotate_left
 ·cases hu
 cases hu
 have wk:=yk.trans hin1
 have w10:=hin1.old (by omega) y10
 have wo:z2h 3 V.length W tv ([((0,0,0):Pt)].map stA):=by
  obtain ⟨h0,h | ⟨id,h1,h2,h3,h4⟩⟩:=yo
  ·exact ⟨h0,.inl h⟩
  ·exact ⟨h0,.inr ⟨id,h1,hin1.old (by omega) h2,h3,h4⟩⟩
 have hrs:Sl 1 u ((z2s ps fs gs a).map z4Z):=by rw [hv];exact .list _
 clear hv yk y10 yo yl hin1 Y
 have hbd:=zKD hal hbl
 have hpr:zJt r.kind r.below ps fs gs a b=bfs (zFr r.kind r.below ps fs gs a b) (fun t=>t.1==a.length) (fun t=>t.2.1==b.length) (z5X a.length b.length) [(0,0,0)] 0:=rfl
 rw [hpr]
 generalize hres:bfs (zFr r.kind r.below ps fs gs a b) (fun t=>t.1==a.length) (fun t=>t.2.1==b.length) (z5X a.length b.length) [(0,0,0)] 0=res at *
 clear hpr
 refine z0A ?_
 refine z0H (z5X a.length b.length) (fun i al W=>∃ z0g tv es c,al=[(4,.ptr H.length 0),(11,.cptr [pv,av,bv]),(12,.str a),(13,.str b),(14,.map V.length),(15,tv),(16,u),(17,.int .i64 i)]∧z0m D mid V W∧W[V.length]? =some (.map es c)∧SeenV stA z0g es∧z2h 3 V.length W tv (z0g.map stA)∧TodoOk a.length b.length z0g∧i≤z0g.length ∧
  bfs (zFr r.kind r.below ps fs gs a b) (fun t=>t.1==a.length) (fun t=>t.2.1==b.length) (z5X a.length b.length-i) z0g i=res) ⟨[(0,0,0)],tv,_,_,rfl,wk,w10,zs,wo,⟨by simp,fun t ht=>by rw [lAR.1 ht];exact ⟨by simp,by simp,by simp⟩⟩,by simp,hres⟩ ?_
 clear wk w10 zs wo hres tv W
 rintro i _ W hi ⟨z0g,tv,es,c,rfl,wk,wm,ws,wo,wt,wi,wres⟩
 have hlen:=wt.len
 have hmt:(z0g.map stA).length=z0g.length:=lAD _
 have e1:decide ((i:Int)<(z0g.length:Int))=decide (i<z0g.length):=by simp only [lAP];omega
 refine z0A ?_
 refine zHB rfl wo ?_
 rw [hmt]
 refine z0A ?_
 rw [e1]
 cases hc:decide (i<z0g.length)
 ·simp only [lAC] at hc
  rw [zKG (by omega)] at wres
  refine z0A ?_
  exact z0W rfl (.inl ⟨_,rfl,by rw [←wres];rfl,hend _ wk⟩)
 simp only [lAE] at hc
 obtain ⟨t,ht⟩:=z0M (l:=z0g) (i:=i) hc
 have htv:(z0g.map stA)[i]? =some (.agg [.int .i64 t.1,.int .i64 t.2.2,.int .i64 t.2.1]):=by rw [lAK,ht];rfl
 have hInB:=wt.inb t (lAF ht)
 obtain ⟨f,hf⟩:∃ f,z5X a.length b.length-i=f+1:=⟨z5X a.length b.length-i-1,by omega⟩
 rw [hf,zKF ht] at wres
 obtain ⟨id,hid,hidg,hidl⟩:∃ id,tv=.sl id 0 z0g.length 3∧W[id]? =some (.cells (z0d (z0g.map stA)))∧V.length≤id:=by
  rcases wo.2 with ⟨h,_⟩ | ⟨id,h,h2,h3,_⟩
  ·have:z0g=[]:=by simpa using h
   rw [this] at hc;simp at hc
  ·exact ⟨id,by rw [h,hmt],h2,h3⟩
 subst hid
 refine z0A ?_
 refine z1s (v:=stA t) rfl hidg (zGP zAw htv) ?_
 refine z0A ?_
 refine z0z (ws:=[.int .i64 t.1,.int .i64 t.2.2,.int .i64 t.2.1]) rfl rfl rfl rfl rfl rfl ?_
 have y18:(W++[Blk.cells [.int .i64 t.1,.int .i64 t.2.2,.int .i64 t.2.1]])[W.length]? =some (.cells [.int .i64 t.1,.int .i64 t.2.2,.int .i64 t.2.1]):=z0E
 have yk:=wk.app [Blk.cells [.int .i64 t.1,.int .i64 t.2.2,.int .i64 t.2.1]]
 have ym:=z0G (G:=[Blk.cells [.int .i64 t.1,.int .i64 t.2.2,.int .i64 t.2.1]]) wm
 have yo:=wo.app [Blk.cells [.int .i64 t.1,.int .i64 t.2.2,.int .i64 t.2.1]]
 have yl:(W++[Blk.cells [.int .i64 t.1,.int .i64 t.2.2,.int .i64 t.2.1]]:z0B).length=W.length+1:=by simp
 have hWl:=wk.len
 have hb18:=(lAA.1 wm).1
 have hid18:=(lAA.1 hidg).1
 have yid:=z0G (G:=[Blk.cells [.int .i64 t.1,.int .i64 t.2.2,.int .i64 t.2.1]]) hidg
 generalize (W++[Blk.cells [.int .i64 t.1,.int .i64 t.2.2,.int .i64 t.2.1]]:z0B)=Y at *
 generalize W.length=b18 at *
 have e2:((t.1:Int)==(a.length:Int))=(t.1==a.length):=by rw [lBM];simp;omega
 have e3:((t.2.1:Int)==(b.length:Int))=(t.2.1==b.length):=by rw [lBM];simp;omega
 refine z0A ?_
 rw [e2]
 cases hfin:(t.1==a.length)
 rotate_left
 ·rw [hfin,if_pos rfl] at wres
  refine z0A ?_
  rw [e3]
  cases hok:(t.2.1==b.length)
  rotate_left
  ·rw [hok,if_pos rfl] at wres
   refine z0A ?_
   exact z0W rfl (.inl ⟨_,rfl,by rw [←wres];rfl,hend _ yk⟩)
  ·rw [hok,if_neg (by simp)] at wres
   refine z0A ?_
   refine ⟨by omega,z0g,_,es,c,rfl,yk,ym,ws,yo,wt,by omega,?_⟩
   rw [←wres]
   congr 1
   omega
 rw [hfin,if_neg (by simp)] at wres
 have hta:t.1<a.length:=by
  have h1:=hInB.1
  have h2:t.1≠a.length:=by simpa using hfin
  omega
 have htb:=hInB.2.1
 have htr:=hInB.2.2
 have y4:Y[H.length]? =some (.cells [.int .i64 r.kind,pv0,lv0,.bool r.below]):=yk.old (by omega) w4
 have hways:=zPc (kind:=r.kind) (below:=r.below) (ps:=ps) (fs:=fs) (gs:=gs) (b:=b) hta
 have hwlen:=zLt (kind:=r.kind) (below:=r.below) (ps:=ps) (fs:=fs) (gs:=gs) (b:=b) hta
 refine z0A ?_
 refine zCM (fun al' W'=>∃ u2,al'=[(4,.ptr H.length 0),(11,.cptr [pv,av,bv]),(12,.str a),(13,.str b),(14,.map V.length),(15,.sl id 0 z0g.length 3),(16,u),(17,.int .i64 i),(18,.ptr b18 0),(19,u2)]∧Sl 2 u2 ((z8z r.kind r.below ps fs gs a b t).map z1z)∧z0m D mid V W'∧W'[V.length]? =some (.map es c)∧W'[id]? =some (.cells (z0d (z0g.map stA)))∧W'[b18]? =some (.cells [.int .i64 t.1,.int .i64 t.2.2,.int .i64 t.2.1])) ?_ ?_
 ·cases hbe:r.below
  ·rw [hbe] at y4
   obtain ⟨g,rr,hg1,hg2,hg3,uu,hsl,hcall⟩:=zLD (fs:=fs) (gs:=gs) (b:=b) (av:=av) (bv:=bv) hsp hpl hps hrs (by omega) hta htr hkd (Y++[zNM])
   refine z0A ?_
   refine z1B (z2m [mid]) ?_
   refine z0A ?_
   refine z8C rfl rfl (lAL _) ?_
   refine z0L rfl (a38 Y) ?_ ?_
   rotate_left
   ·rintro u V' ⟨hu,_⟩
    cases hu
   rintro u' W' ⟨hu,rfl⟩
   cases hu
   refine z0j z2M ?_
   refine z8C rfl rfl (by simp) ?_
   refine z8L (key:=.int .i64 r.kind) (c:=4) (r:=some rr) rfl rfl z0E rfl hg2 hg3 ?_
   refine z0j (fun n x v _ h=>h) ?_
   refine zAG (f:=g) (fs:=[]) (cs:=[]) (vs:=[.cptr [pv,av,bv],u,.agg [.int .i64 t.1,.int .i64 t.2.2]]) rfl (by simp) rfl hg1 hcall ?_ ?_
   rotate_left
   ·rintro u V' ⟨hu,_⟩
    cases hu
   rintro u' W' ⟨hu,rfl⟩
   cases hu
   refine ⟨(yk.app [zNM]).self.mod,?_⟩
   refine z0A ?_
   exact ⟨uu,rfl,hsl,yk.app _,z0G ym,z0G yid,z0G y18⟩
  ·rw [hbe] at y4
   refine z0A ?_
   refine z1B (z2m [mid]) ?_
   refine z0A ?_
   refine z4g rfl (lAL _) rfl (a37 (kind:=r.kind) (wr:=b.take t.2.1) (x:=a) (at_:=t.1) (fr_:=t.2.2) (hl.to yk) (by simp;omega) (by omega) (by omega) hps yk.self) ?_ ?_
   rotate_left
   ·rintro u V' ⟨hu,_⟩
    cases hu
   rintro u' W' ⟨hu,hin2⟩
   cases hu
   refine ⟨hin2.mod,?_⟩
   refine z0A ?_
   exact ⟨_,rfl,by unfold z8z;rw [if_pos rfl];exact .list _,yk.trans hin2,hin2.old (by omega) ym,hin2.old (by omega) yid,hin2.old (by omega) y18⟩
 clear yk ym yo yid y4 y18 yl
 rintro _ Z ⟨u2,rfl,hus,zk,zm,zid,z18⟩
 have zo:z2h 3 V.length Z (.sl id 0 z0g.length 3) (z0g.map stA):=⟨zAw,.inr ⟨id,by rw [hmt],zid,hidl,by
  intro e
  have:z0g=[]:=by simpa using e
  rw [this] at hc;simp at hc⟩⟩
 have zn:∀ k,AV.sl id 0 z0g.length 3≠.sl b18 0 k 3:=fun k e=>by
  injection e with e
  omega
 have hnx:zFr r.kind r.below ps fs gs a b t=z4U ps a b t (z8z r.kind r.below ps fs gs a b t):=rfl
 rw [hnx] at wres
 clear hnx
 generalize z8z r.kind r.below ps fs gs a b t=ways at *
 have hlw:(ways.map z1z).length=ways.length:=lAD _
 clear hidg zid hid18 wk wm wo W e2 e3
 generalize AV.sl id 0 z0g.length 3=tv at *
 refine z0A ?_
 refine z0H ways.length (fun k al W=>∃ tv es c,al=[(4,.ptr H.length 0),(11,.cptr [pv,av,bv]),(12,.str a),(13,.str b),(14,.map V.length),(15,tv),(16,u),(17,.int .i64 i),(18,.ptr b18 0),(97,u2),(98,.int .i64 ways.length),(99,.int .i64 k)]∧z0m D mid V W∧W[V.length]? =some (.map es c)∧SeenV stA (pushAll z0g (z4U ps a b t (ways.take k))) es∧z2h 3 V.length W tv ((pushAll z0g (z4U ps a b t (ways.take k))).map stA)∧(∀ k,tv≠.sl b18 0 k 3)∧TodoOk a.length b.length (pushAll z0g (z4U ps a b t (ways.take k)))∧W[b18]? =some (.cells [.int .i64 t.1,.int .i64 t.2.2,.int .i64 t.2.1])) ⟨tv,_,_,by rw [hlw];rfl,zk,zm,ws,zo,zn,wt,z18⟩ ?_
 clear zk zm ws zo zn z18 Z c es tv
 rintro k _ W hk ⟨tv,es,c,rfl,wk,wm,ws,wo,wn,wtk,w18⟩
 have e4:decide ((k:Int)<(ways.length:Int))=decide (k<ways.length):=by simp only [lAP];omega
 refine z0A ?_
 rw [e4]
 cases hc2:decide (k<ways.length)
 ·simp only [lAC] at hc2
  have htk:ways.take k=ways:=lAQ (by omega)
  rw [htk] at ws wo wtk
  have hge3:z0g.length≤(pushAll z0g (z4U ps a b t ways)).length:=z7c _ _
  refine z0A ?_
  refine ⟨by omega,pushAll z0g (z4U ps a b t ways),tv,es,c,rfl,wk,wm,ws,wo,wtk,by omega,?_⟩
  rw [←wres]
  congr 1
  omega
 simp only [lAE] at hc2
 obtain ⟨m,hm⟩:=z0M (l:=ways) (i:=k) hc2
 have hmv:(ways.map z1z)[k]? =some (.agg [.int .i64 m.1,.int .i64 m.2]):=by rw [lAK,hm];rfl
 have hmw:=hways m (lAF hm)
 refine z0A ?_
 refine z0z (ws:=[.int .i64 m.1,.int .i64 m.2]) rfl rfl rfl rfl rfl rfl ?_
 have y21:(W++[Blk.cells [.int .i64 m.1,.int .i64 m.2]])[W.length]? =some (.cells [.int .i64 m.1,.int .i64 m.2]):=z0E
 have yk:=wk.app [Blk.cells [.int .i64 m.1,.int .i64 m.2]]
 have ym:=z0G (G:=[Blk.cells [.int .i64 m.1,.int .i64 m.2]]) wm
 have y18:=z0G (G:=[Blk.cells [.int .i64 m.1,.int .i64 m.2]]) w18
 have yo:=wo.app [Blk.cells [.int .i64 m.1,.int .i64 m.2]]
 have hb21:=(lAA.1 w18).1
 have yl:(W++[Blk.cells [.int .i64 m.1,.int .i64 m.2]]:z0B).length=W.length+1:=by simp
 generalize (W++[Blk.cells [.int .i64 m.1,.int .i64 m.2]]:z0B)=Y at *
 generalize W.length=b21 at *
 clear wk wm w18 wo W
 refine z0A ?_
 refine z0J rfl (a39w (m:=m) (t:=t) hsp hmw hta (by omega) _) ?_
 generalize hwr:z2j ps a t m=w at *
 refine z0A ?_
 refine z6N rfl rfl (by omega) (by omega) ?_
 have e5:decide ((b.length:Int)-(t.2.1:Int)<(w.length:Int)) = !decide (w.length≤b.length-t.2.1):=by rw [lBM];simp;omega
 refine z0A ?_
 rw [e5]
 cases hc3:decide (w.length≤b.length-t.2.1)
 ·have hno:zEj b t.2.1 (z2j ps a t m)=false:=by rw [hwr];unfold zEj;rw [hc3];rfl
  have hsn:=zEn (ps:=ps) (a:=a) hm hno
  refine z0A ?_
  exact ⟨hc2,tv,es,c,rfl,yk,ym,by rw [hsn];exact ws,by rw [hsn];exact yo,wn,by rw [hsn];exact wtk,y18⟩
 have hc3':=hc3
 simp only [lAE] at hc3
 refine z0A ?_
 refine z1N (a:=t.2.1) (b:=w.length) rfl rfl (by omega) ?_
 refine z0A ?_
 refine z5e rfl rfl (z5V (by omega) (by omega)) ?_
 generalize hsb:(List.drop t.2.1 b).take (t.2.1+w.length-t.2.1)=sb
 refine z0A ?_
 cases hc4:(sb==w)
 ·have hno:zEj b t.2.1 (z2j ps a t m)=false:=by rw [hwr];unfold zEj sub;rw [hsb,hc4];simp
  have hsn:=zEn (ps:=ps) (a:=a) hm hno
  refine z0A ?_
  exact ⟨hc2,tv,es,c,rfl,yk,ym,by rw [hsn];exact ws,by rw [hsn];exact yo,wn,by rw [hsn];exact wtk,y18⟩
 have hfit:zEj b t.2.1 (z2j ps a t m)=true:=by rw [hwr];unfold zEj sub;rw [hsb,hc4,hc3'];rfl
 refine z0A ?_
 refine zYT (ps:=ps) (a:=a) (t:=t) (m:=m) y18 y21 hwr (by omega) ?_
 have hsn:=zKT (ps:=ps) (a:=a) (z0g:=z0g) hm hfit
 have hnb:=zTF (b:=b) hInB hmw hfit
 have hwt2:=wtk.push hnb
 rw [←hsn] at hwt2
 generalize goP ps a t m=n at *
 generalize pushAll z0g (z4U ps a b t (ways.take k))=td at *
 generalize hP:pushAll z0g (z4U ps a b t (ways.take (k+1)))=td2 at *
 have z23:(Y++[Blk.cells [.int .i64 n.1,.int .i64 n.2.2,.int .i64 n.2.1]])[Y.length]? =some (.cells [.int .i64 n.1,.int .i64 n.2.2,.int .i64 n.2.1]):=z0E
 have zk:=yk.app [Blk.cells [.int .i64 n.1,.int .i64 n.2.2,.int .i64 n.2.1]]
 have zm:=z0G (G:=[Blk.cells [.int .i64 n.1,.int .i64 n.2.2,.int .i64 n.2.1]]) ym
 have z18:=z0G (G:=[Blk.cells [.int .i64 n.1,.int .i64 n.2.2,.int .i64 n.2.1]]) y18
 have zo:=yo.app [Blk.cells [.int .i64 n.1,.int .i64 n.2.2,.int .i64 n.2.1]]
 have zl:(Y++[Blk.cells [.int .i64 n.1,.int .i64 n.2.2,.int .i64 n.2.1]]:z0B).length=Y.length+1:=by simp
 have hVY:=(lAA.1 ym).1
 generalize (Y++[Blk.cells [.int .i64 n.1,.int .i64 n.2.2,.int .i64 n.2.1]]:z0B)=Z at *
 generalize Y.length=b23 at *
 clear y21 y18 yk ym yo Y
 obtain ⟨rr,hf1,hf2,hf3⟩:=ws.find zSj (t:=n)
 refine z0A ?_
 refine z8L (key:=stA n) (es:=es) (c:=c) (r:=rr) rfl rfl zm rfl hf1 hf2 ?_
 by_cases hmn:n∈td
 ·rw [decide_eq_true hmn]
  have htd:td2=td:=by rw [hsn];unfold push;rw [if_pos hmn]
  rw [htd] at hwt2
  refine z0A ?_
  exact ⟨hc2,tv,es,c,rfl,zk,zm,by rw [htd];exact ws,by rw [htd];exact zo,wn,by rw [htd];exact hwt2,z18⟩
 rw [decide_eq_false hmn]
 have hrr:=hf3 hmn
 subst hrr
 have ws2:=ws.push hmn c
 rw [←hsn] at ws2
 have htd2:td2=td++[n]:=by rw [hsn];unfold push;rw [if_neg hmn]
 have htl:=wtk.len
 refine z0A ?_
 refine z4j (key:=stA n) (v:=.bool true) (es:=es) (c:=c) (r:=none) rfl rfl rfl zm rfl hf1 ?_
 show VV _ _ _ (Z.set V.length (.map (es++[(stA n,.bool true,c)]) (c+1))) _ _
 have xm:(Z.set V.length (.map (es++[(stA n,.bool true,c)]) (c+1)))[V.length]? =some (.map (es++[(stA n,.bool true,c)]) (c+1)):=lAT (lAA.1 zm).1
 have xk:z0m D mid V (Z.set V.length (.map (es++[(stA n,.bool true,c)]) (c+1))):=zk.own (lAL _) (by omega)
 have x18:=z0K (c:=.map (es++[(stA n,.bool true,c)]) (c+1)) z18 (i:=V.length) (by omega)
 have x23:=z0K (c:=.map (es++[(stA n,.bool true,c)]) (c+1)) z23 (i:=V.length) (by omega)
 have xl:(Z.set V.length (.map (es++[(stA n,.bool true,c)]) (c+1))).length=b23+1:=by rw [lCC];exact zl
 have xo:z2h 3 V.length (Z.set V.length (.map (es++[(stA n,.bool true,c)]) (c+1))) tv (td.map stA):=by
  obtain ⟨h0,h | ⟨id,h1,h2,h3,h4⟩⟩:=zo
  ·exact ⟨h0,.inl h⟩
  ·refine ⟨h0,.inr ⟨id,h1,z0K h2 fun e=>?_,h3,h4⟩⟩
   subst e
   rw [zm] at h2;cases h2
 generalize Z.set V.length (.map (es++[(stA n,.bool true,c)]) (c+1))=X2 at *
 clear zm zk z18 z23 zl zo Z
 refine z0A ?_
 refine z0S (out:=[.int .i64 n.1,.int .i64 n.2.2,.int .i64 n.2.1]) rfl ?_
 refine z3w (v:=tv) rfl xo rfl rfl rfl (by rw [lAD];omega) (by omega) ?_
 intro tv' T hko hpres hlen2 hfr
 have hmo:td.map stA++[.agg [.int .i64 n.1,.int .i64 n.2.2,.int .i64 n.2.1]]=td2.map stA:=by rw [htd2,lBE];rfl
 rw [hmo] at hko
 have hneM:∀ k,tv≠.sl V.length 0 k 3:=fun k e=>by
  rcases xo.2 with ⟨_,h⟩ | ⟨id,h,h2,_⟩
  ·rw [h] at e;cases e
  ·rw [h] at e
   injection e with e
   subst e
   rw [xm] at h2;cases h2
 have hnm:∀ j,j<V.length→∀ k,tv≠.sl j 0 k 3:=fun j hj k e=>by
  rcases xo.2 with ⟨_,h⟩ | ⟨id,h,_,h3,_⟩
  ·rw [h] at e;cases e
  ·rw [h] at e
   injection e with e
   omega
 refine z0A ?_
 exact ⟨hc2,tv',_,_,rfl,xk.pres hmV (fun j b hj hb=>hpres j b (hnm j hj) hb) hlen2,hpres _ _ hneM xm,ws2,hko,fun k e=>by
  have:=hfr _ _ e
  omega,hwt2,hpres _ _ wn x18⟩
end
end Go.Ab
