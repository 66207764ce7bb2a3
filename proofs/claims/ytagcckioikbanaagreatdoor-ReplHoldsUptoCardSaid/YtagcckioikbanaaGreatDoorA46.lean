/- Part 46 of the proof. -/
import Derived.Test.YtagcckioikbanaaGreatDoorA33
import Derived.Test.YtagcckioikbanaaGreatDoorA44
import Derived.Test.YtagcckioikbanaaGreatDoorA45
set_option linter.unusedVariables false
set_option linter.unusedSimpArgs false
namespace Go.Ab
open Go
set_option maxRecDepth 100000
set_option maxHeartbeats 16000000
section vxm
variable {P:Program} {H:z0B} {al:AL} {Q:PL} {K:KL} {O:AV→Prop} {base:Nat} {ios:List IOper} {B:List (List Nat)} {Gp:AV→Prop} {s:Sched}
theorem vx_m {i d k len sz:Nat} {zs:List AV} {pl:List (Nat × Nat)} {as_:List Arg} {out:List AV} (ho:ios[i]? =some ⟨some d,.i (.m (.buildSlice len sz zs pl)),as_,none,some k⟩) (hg:H[base+k]? =some .resv)
  (hf:z4T (if len*sz=0 then [] else z1C len zs) pl (z1G al as_)=some out)
  (hp:∀ n x v,O x→z0p n x H=some v→z0p n x (H.set (base+k) (.cells out))=some v)
  (h:VX P O base ios B K Gp s ((d,.sl (base+k) 0 len sz)::al) (H.set (base+k) (.cells out))):VX P O base ios B K Gp (.branch i s .stop) al H:=by
 refine ⟨fun S hS=>?_⟩
 have hlt:=(lAA.1 hg).1
 have hrr:rOf base ⟨some d,.i (.m (.buildSlice len sz zs pl)),as_,none,some k⟩ H=base+k:=rfl
 have hput:put H (base+k) (.cells out)=H.set (base+k) (.cells out):=by
  unfold put
  rw [if_pos hlt]
 have hS':∀ r∈S,O r.x∧z0p r.n r.x (H.set (base+k) (.cells out))=some r.v:=fun r hr=>⟨(hS r hr).1,hp _ _ _ (hS r hr).1 (hS r hr).2⟩
 simp only [vsL,ho,hrr]
 refine ⟨⟨?_,lCM (by omega),?_⟩,trivial⟩
 ·simp [z9Y,hg]
 ·have hi:z5p (.m (.buildSlice len sz zs pl)) (z1G al as_) H (base+k)=some (.sl (base+k) 0 len sz,H.set (base+k) (.cells out)):=by
   simp only [z5p,z7J,hf]
   rw [hput]
  simp only [zKW,z4F,hi]
  refine ⟨?_,h.1 S hS'⟩
  unfold z5v
  rw [ho]
  simp only
  split
  ·trivial
  ·exact fun r hr _=>(hS' r hr).2
theorem zGE {ks:List Nat} (O:AV→Prop) (h:VX P O H.length ios B (fun a h=>Q .normal (z1g a ks) h) (fun _=>False) s al (H++[.resv])):WI P (.draw 1 ios B s (some ks)) Q al H:=by
 refine ⟨⟨fun _=>False,fun _ _ f=>f.elim,?_⟩⟩
 have:z1P H 1=H++[.resv]:=by simp [z1P]
 rw [this]
 exact h.1 [] (by simp)
end vxm
section steps
variable {P:Program} {H G:z0B} {al:AL} {K:KL} {Qp:AL→AV→z0B→Prop} {os:List IOper} {d:Nat} {x y z:Arg}
theorem zJP {sz lo bytes:Nat} {v w:AV} {l:List AV} {cs:List AV} {X:z0B} (hx:evL al x=v) (ho:z2h sz lo X v l) (hy:evL al y=w) (hys:z1m sz X w=some (1,cs)) (hcs:cs.length=sz) (hsc:cs.all AV.scalar=true)
  (hb:(l.length+1)*bytes≤140737488355328) (hlo:lo≤X.length)
  (h:∀ v' H',z2h sz lo H' v' (l++[.agg cs])→(∀ (j:Nat) (b:Blk),(∀ k,v≠.sl j 0 k sz)→X[j]? =some b→H'[j]? =some b)→X.length≤H'.length→(∀ j k,v'=.sl j 0 k sz→X.length≤j)→VV P os ((d,v')::al) H' K Qp) :
  VV P (⟨some d,.i (.m (.append sz bytes)),[x,y],none,none⟩::os) al X K Qp:=by
 obtain ⟨h0,ho⟩:=ho
 have hel:∀ x∈l++[.agg cs],x.cells.length=sz:=by
  intro x hx
  rcases lA5.1 hx with hx | hx
  ·exact h0 x hx
  ·rw [lAR] at hx;subst hx;exact hcs
 rcases ho with ⟨rfl,rfl⟩ | ⟨id,rfl,h3,h4,h5⟩
 ·refine z3x (m:=1) (ys:=cs) hx (by rw [hy];exact hys) (by omega) hsc (by simpa using hb) ?_
  refine h _ _ ⟨hel,.inr ⟨_,rfl,?_,hlo,by simp⟩⟩ (fun j b hj hb=>z0G hb) (by rw [lAH];omega) (fun j k e=>by injection e with e;omega)
  rw [zAT]
  simp [z0d,AV.cells]
 ·have hlt:=(lAA.1 h3).1
  have hfl:(z0d l).length=l.length*sz:=z0t h0
  refine z4G (m:=1) (ys:=cs) hx h3 (by omega) (by rw [hy];exact hys) hsc hb ?_
  refine h _ _ ⟨hel,.inr ⟨X.length,by rw [show (l++[AV.agg cs]).length=l.length+1 by simp],?_,hlo,by simp⟩⟩ (fun j b hj hb=>?_) (by rw [lAH,lCC];omega) (fun j k e=>by injection e with e;omega)
  ·rw [lAM (by simp)]
   simp only [lCC,lBG,lAY]
   rw [lBP,←hfl,lAW,z3f]
   simp [z0d,AV.cells]
  ·have:=(lAA.1 hb).1
   have hne:id≠j:=fun e=>hj l.length (by rw [e])
   rw [lAN (by simp;omega),lBF,if_neg hne]
   exact hb
end steps
section
variable {H:z0B}
theorem zYe {l:List Way} (hn:l.length≤1000000):z0C PP 99 [z5b l] H (fun r H'=>∃ v,r=.ret v∧z2h 2 H.length H' v (l.map z1z)∧AskMs [] H H'):=by
 cases hl:l with
 | nil =>
  have e:z5b ([]:List Way)=.nilslice:=rfl
  rw [e]
  refine zZR.c1 z0P mixed rfl ?_
  rw [lAJ]
  refine z0A ?_
  refine z2K (v:=.bool true) rfl ?_
  refine z0A ?_
  exact z0W rfl ⟨_,rfl,z2h.nil,zCE⟩
 | cons a b =>
  have e:z5b (a::b)=.list 2 ((a::b).map z1z):=rfl
  rw [e]
  refine (zYf z2y (zLs _) (by rw [lAD,←hl];exact hn) (by simp)).mono fun r H' q=>?_
  obtain ⟨id,h1,h2,h3,h4⟩:=q
  exact ⟨_,h1,⟨z2y,.inr ⟨id,rfl,h2,h3,by simp⟩⟩,h4⟩
end
def zRX (rows:List (List (Nat × Nat))) (at_:Nat):List Way:=(rows.getD at_ []).map z1K++[(-1,at_+1)]
def zFu (rows:List (List (Nat × Nat))) (at_ fr_:Nat):List Way :=
 (rows.getD at_ []).map z1K++if (List.range (at_+1-fr_)).any (fun i=>(rows.getD (fr_+i) []).any fun q=>q.2==at_+1) then [] else [(-1,at_+1)]
theorem zQM {lo n sz:Nat} {W:z0B} {kv:AV} {l:List AV} (hk:z2h sz lo W kv l) (hn:n≤lo):∃ K,SealsX n kv W (if l.isEmpty then .nilslice else .list sz l) K∧(K=W∨∃ kb k,kv=.sl kb 0 k sz∧K=W.set kb .dead):=by
 obtain ⟨h0,⟨rfl,rfl⟩ | ⟨kb,rfl,g,hlo,hne⟩⟩:=hk
 ·exact ⟨W,.done _ _,.inl rfl⟩
 ·refine ⟨W.set kb .dead,?_,.inr ⟨kb,_,rfl,rfl⟩⟩
  rw [if_neg (by rw [lCX];exact hne)]
  exact .step kb _ (by omega) g (.base _ _ (.sl 0 _ sz l rfl h0 (by rw [lBP,←z0t h0,lAW]) (by rw [z0t h0];omega))) (.done _ _)
theorem zNH {X:z0B} {L:List (Nat × (z3T→Prop))} {W:z0B} (h:AskMs L X W) {sz lo:Nat} {kv:AV} {l:List AV} (hk:z2h sz lo W kv l):∀ p∈L,∀ k,kv≠.sl p.1 0 k sz:=by
 intro p hp k e
 obtain ⟨es,c,_,hg⟩:=h.at_ p hp
 rcases hk.2 with ⟨_,e2⟩ | ⟨kb,e2,g,_,_⟩
 ·rw [e2] at e;cases e
 ·rw [e2] at e
  injection e with e
  subst e
  rw [g] at hg;cases hg
theorem AskMs.growW {X:z0B} {L:List (Nat × (z3T→Prop))} {W Z:z0B} (h:AskMs L X W) {sz lo:Nat} {kv:AV} {l:List AV} (hk:z2h sz lo W kv l) (hlo:X.length≤lo) (hp:∀ (j:Nat) (b:Blk),(∀ k,kv≠.sl j 0 k sz)→W[j]? =some b→Z[j]? =some b) (hl:W.length≤Z.length):AskMs L X Z :=
 h.pres (fun j b _ hj hb=>hp j b (hk.ne (by omega)) hb) (fun p hq b hb=>hp _ b (zNH h hk p hq) hb) hl
theorem AskMs.sealedW {X:z0B} {L:List (Nat × (z3T→Prop))} {W K:z0B} (h:AskMs L X W) {sz lo:Nat} {kv:AV} {l:List AV} (hk:z2h sz lo W kv l) (hlo:X.length≤lo) (e:K=W∨∃ kb k,kv=.sl kb 0 k sz∧K=W.set kb .dead):AskMs L X K:=by
 rcases e with rfl | ⟨kb,k,rfl,rfl⟩
 ·exact h
 ·have hn:=zNH h hk
  rcases hk.2 with ⟨_,e⟩ | ⟨kb',e,_,hlo2,_⟩
  ·cases e
  ·injection e with e
   subst e
   exact h.own (by omega) fun p hp e=>hn p hp k (by rw [e])
theorem zAF {n lo:Nat} {W:z0B} {kv:AV} {l:List Way} (hk:z2h 2 lo W kv (l.map z1z)) (hn:n≤lo):∃ K,SealsX n kv W (z5b l) K∧(K=W∨∃ kb k,kv=.sl kb 0 k 2∧K=W.set kb .dead):=by
 obtain ⟨K,g1,g2⟩:=zQM hk hn
 refine ⟨K,?_,g2⟩
 unfold z5b
 rw [lD7] at g1
 exact g1
section
variable {pv av bv:AV} {ps:List (Bt × Bt)} {H:z0B} {rv:AV} {rows:List (List (Nat × Nat))} {at_ fr_:Nat}
theorem a79 (hr:Sl 1 rv (rows.map z4Z)) (hat:at_<rows.length) (hrl:rows.length≤100000) (hll:∀ l∈rows,l.length≤100000):z0C PP 56 [.cptr [pv,av,bv],rv,.agg [.int .i64 at_,.int .i64 fr_]] H (z1D H (z5b (zRX rows at_))):=by
 refine z0C.plainE (zBH _) ?_
 refine z0C.sealed (n:=H.length) ?_
 refine zZY.c3 z0P mixed rfl ?_
 rw [lAJ]
 refine z1E (z0V ?_)
 refine z0y (.agg [.int .i64 at_,.int .i64 fr_]) rfl rfl ?_
 have x5:(H++[Blk.cells [.int .i64 at_,.int .i64 fr_]])[H.length]? =some (.cells [.int .i64 at_,.int .i64 fr_]):=z0E
 have xk:=zCE (H:=H).app [Blk.cells [.int .i64 at_,.int .i64 fr_]]
 have xl:(H++[Blk.cells [.int .i64 at_,.int .i64 fr_]]:z0B).length=H.length+1:=by simp
 show VV _ _ _ (H++[Blk.cells [.int .i64 at_,.int .i64 fr_]]) _ _
 generalize (H++[Blk.cells [.int .i64 at_,.int .i64 fr_]]:z0B)=X at *
 obtain ⟨row,hrow⟩:=z0M (l:=rows) (i:=at_) hat
 have hrv:(rows.map z4Z)[at_]? =some (z4Z row):=by rw [lAK,hrow];rfl
 obtain ⟨sc1,sc2⟩:=z9M row
 have hlr:=hll row (lAF hrow)
 have hmay:zRX rows at_=row.map z1K++[(-1,at_+1)]:=by unfold zRX;rw [lAB,hrow];rfl
 have k139:=fun H'=>zYe (H:=H') (l:=row.map z1K) (by rw [lAD];omega)
 have ek:z5b (row.map z1K)=z4Z row:=rfl
 rw [ek] at k139
 rw [hmay]
 generalize z4Z row=rw_ at *
 have hrl2:((row.map z1K).map z1z).length=row.length:=by rw [lAD,lAD]
 have x5r:=z0G (G:=[Blk.resv]) x5
 have xr:(X++[Blk.resv])[H.length+1]? =some .resv:=by rw [←xl];exact z0E
 have xkr:=xk.app [Blk.resv]
 have xlr:(X++[Blk.resv]:z0B).length=H.length+2:=by simp [xl]
 have last:∀ {v:AV} {T:z0B},AskMs [] H T→T[H.length+1]? =some (.cells [.int .i64 (-1),.int .i64 (at_+1:Nat)])→z2h 2 (H.length+2) T v ((row.map z1K).map z1z)→H.length+2≤T.length →
   z1m 2 T (.sl (H.length+1) 0 1 2)=some (1,[.int .i64 (-1),.int .i64 (at_+1:Nat)]):=fun _ hg _ _=>by
  simp only [z1m,if_true,hg];rfl
 refine z0A ?_
 refine zGE (z2D [H.length]) ?_
 refine z0A ?_
 rw [sc2]
 refine z0A ?_
 refine z0s (out:=[.int .i64 (-1),.int .i64 (at_+1:Nat)]) rfl rfl ?_
 refine z3q ?_
 refine z9A ?_ ?_
 ·refine z8C rfl rfl (by omega) ?_
  refine z0L rfl (k139 _) ?_ ?_
  rotate_left
  ·rintro u V' ⟨v,hu,_⟩
   cases hu
  rintro u T ⟨v,hu,tw,tk⟩
  cases hu
  refine z0j (z0c fun j hj b hb'=>tk.old j b (fun p hp=>by cases hp) hb') ?_
  have tr:T[X.length+0]? =some .resv:=by rw [lCJ,xl];exact tk.old _ _ (fun p hp=>by cases hp) xr
  have tlen:=tk.len
  refine vx_m (out:=[.int .i64 (-1),.int .i64 (at_+1:Nat)]) rfl tr rfl (z0c fun j hj b hb'=>?_) ?_
  ·simp only [lAR] at hj
   subst hj
   exact z0K hb' (by omega)
  have tb:(T.set (X.length+0) (.cells [.int .i64 (-1),.int .i64 (at_+1:Nat)]))[H.length+1]? =some (.cells [.int .i64 (-1),.int .i64 (at_+1:Nat)]):=by
   rw [lCJ,xl];exact lAT (by omega)
  have tk2:AskMs [] H (T.set (X.length+0) (.cells [.int .i64 (-1),.int .i64 (at_+1:Nat)])):=(xkr.trans tk).own (by omega) (fun p hp=>by cases hp)
  have tw2:z2h 2 (H.length+2) (T.set (X.length+0) (.cells [.int .i64 (-1),.int .i64 (at_+1:Nat)])) u ((row.map z1K).map z1z):=by
   rw [←xlr];exact tw.mono fun j b h1 h2=>z0K h2 (by omega)
  have tl:H.length+2≤(T.set (X.length+0) (.cells [.int .i64 (-1),.int .i64 (at_+1:Nat)])).length:=by simp;omega
  generalize T.set (X.length+0) (.cells [.int .i64 (-1),.int .i64 (at_+1:Nat)])=U at *
  refine z8C rfl rfl (by omega) ?_
  refine zJP (v:=u) (w:=.sl (H.length+1) 0 1 2) rfl tw2 (by rw [←xl];rfl) (last tk2 tb tw2 tl) rfl rfl (by rw [hrl2];omega) tl ?_
  intro v' Z hko hpres hlen hfr
  have zk:=tk2.growW tw2 (by omega) hpres hlen
  have hne5:∀ k,u≠.sl H.length 0 k 2:=tw2.ne (by omega)
  refine z0j (z0c fun j hj b hb'=>?_) ?_
  ·simp only [lAR] at hj
   subst hj
   exact hpres _ _ hne5 hb'
  have hmo:(row.map z1K).map z1z++[.agg [.int .i64 (-1),.int .i64 (at_+1:Nat)]]=(row.map z1K++[(-1,at_+1)]).map z1z:=by rw [lBE];rfl
  rw [hmo] at hko
  refine z0A ?_
  refine z0W rfl (.inl ?_)
  obtain ⟨K,g1,g2⟩:=zAF (n:=H.length) hko (by omega)
  exact ⟨_,_,K,rfl,g1,rfl,zk.sealedW hko (by omega) g2⟩
 ·refine vx_m (out:=[.int .i64 (-1),.int .i64 (at_+1:Nat)]) rfl (by rw [lCJ,xl];exact xr) rfl (z0c fun j hj b hb'=>?_) ?_
  ·simp only [lAR] at hj
   subst hj
   exact z0K hb' (by omega)
  have ub:((X++[Blk.resv]).set (X.length+0) (.cells [.int .i64 (-1),.int .i64 (at_+1:Nat)]))[H.length+1]? =some (.cells [.int .i64 (-1),.int .i64 (at_+1:Nat)]):=by
   rw [lCJ,xl];exact lAT (by omega)
  have uk:AskMs [] H ((X++[Blk.resv]).set (X.length+0) (.cells [.int .i64 (-1),.int .i64 (at_+1:Nat)])):=xkr.own (by omega) (fun p hp=>by cases hp)
  have ul:((X++[Blk.resv]:z0B).set (X.length+0) (.cells [.int .i64 (-1),.int .i64 (at_+1:Nat)])).length=H.length+2:=by simp [xl]
  generalize (X++[Blk.resv]:z0B).set (X.length+0) (.cells [.int .i64 (-1),.int .i64 (at_+1:Nat)])=S0 at *
  refine z8C rfl rfl (by omega) ?_
  refine z0L rfl (k139 _) ?_ ?_
  rotate_left
  ·rintro u V' ⟨v,hu,_⟩
   cases hu
  rintro u U ⟨v,hu,tw,tk⟩
  cases hu
  refine z0j (z0c fun j hj b hb'=>tk.old j b (fun p hp=>by cases hp) hb') ?_
  have tlen:=tk.len
  have tb:=tk.old _ _ (fun p hp=>by cases hp) ub
  have tk2:=uk.trans tk
  have tw2:z2h 2 (H.length+2) U u ((row.map z1K).map z1z):=by rw [←ul];exact tw
  have tl:H.length+2≤U.length:=by omega
  refine z8C rfl rfl (by omega) ?_
  refine zJP (v:=u) (w:=.sl (H.length+1) 0 1 2) rfl tw2 (by rw [←xl];rfl) (last tk2 tb tw2 tl) rfl rfl (by rw [hrl2];omega) tl ?_
  intro v' Z hko hpres hlen hfr
  have zk:=tk2.growW tw2 (by omega) hpres hlen
  have hne5:∀ k,u≠.sl H.length 0 k 2:=tw2.ne (by omega)
  refine z0j (z0c fun j hj b hb'=>?_) ?_
  ·simp only [lAR] at hj
   subst hj
   exact hpres _ _ hne5 hb'
  have hmo:(row.map z1K).map z1z++[.agg [.int .i64 (-1),.int .i64 (at_+1:Nat)]]=(row.map z1K++[(-1,at_+1)]).map z1z:=by rw [lBE];rfl
  rw [hmo] at hko
  refine z0A ?_
  refine z0W rfl (.inl ?_)
  obtain ⟨K,g1,g2⟩:=zAF (n:=H.length) hko (by omega)
  exact ⟨_,_,K,rfl,g1,rfl,zk.sealedW hko (by omega) g2⟩
end
section
variable {pv av bv:AV} {ps:List (Bt × Bt)} {H:z0B} {rv:AV} {rows:List (List (Nat × Nat))} {at_ fr_:Nat}
theorem a78 (hr:Sl 1 rv (rows.map z4Z)) (hat:at_<rows.length) (hfr:fr_≤at_) (hrl:rows.length≤100000) (hll:∀ l∈rows,l.length≤100000):z0C PP 55 [.cptr [pv,av,bv],rv,.agg [.int .i64 at_,.int .i64 fr_]] H (z1D H (z5b (zFu rows at_ fr_))):=by
 refine z0C.plainE (zBH _) ?_
 refine z0C.sealed (n:=H.length) ?_
 refine zZZ.c3 z0P mixed rfl ?_
 rw [lAJ]
 refine z1E (z0V ?_)
 refine z0y (.agg [.int .i64 at_,.int .i64 fr_]) rfl rfl ?_
 have x5:(H++[Blk.cells [.int .i64 at_,.int .i64 fr_]])[H.length]? =some (.cells [.int .i64 at_,.int .i64 fr_]):=z0E
 have xk:=zCE (H:=H).app [Blk.cells [.int .i64 at_,.int .i64 fr_]]
 have xl:(H++[Blk.cells [.int .i64 at_,.int .i64 fr_]]:z0B).length=H.length+1:=by simp
 show VV _ _ _ (H++[Blk.cells [.int .i64 at_,.int .i64 fr_]]) _ _
 generalize (H++[Blk.cells [.int .i64 at_,.int .i64 fr_]]:z0B)=X at *
 obtain ⟨row,hrow⟩:=z0M (l:=rows) (i:=at_) hat
 have hrv:(rows.map z4Z)[at_]? =some (z4Z row):=by rw [lAK,hrow];rfl
 obtain ⟨sc1,sc2⟩:=z9M row
 have hlr:=hll row (lAF hrow)
 have hmust:zFu rows at_ fr_=row.map z1K++if (List.range (at_+1-fr_)).any (fun i=>(rows.getD (fr_+i) []).any fun q=>q.2==at_+1) then [] else [(-1,at_+1)]:=by
  unfold zFu
  rw [show rows.getD at_ []=row by rw [lAB,hrow];rfl]
 have k139:=fun H'=>zYe (H:=H') (l:=row.map z1K) (by rw [lAD];omega)
 have ek:z5b (row.map z1K)=z4Z row:=rfl
 rw [ek] at k139
 rw [hmust]
 generalize z4Z row=rw_ at *
 have hrl2:((row.map z1K).map z1z).length=row.length:=by rw [lAD,lAD]
 refine z0A ?_
 rw [sc2]
 refine z0A ?_
 refine z0L rfl (k139 X) ?_ ?_
 rotate_left
 ·rintro u V' ⟨v,hu,_⟩
  cases hu
 rintro u T ⟨v,hu,tw,tk⟩
 cases hu
 have t5:=tk.old _ _ (fun p hp=>by cases hp) x5
 have tkk:=xk.trans tk
 rw [xl] at tw
 refine z0A ?_
 refine z0H (at_+1-fr_) (fun i al W=>al=[(1,rv),(5,.ptr H.length 0),(7,u),(8,.int .i64 (fr_+i:Nat))]∧W=T∧(List.range i).any (fun i=>(rows.getD (fr_+i) []).any fun q=>q.2==at_+1)=false) ⟨rfl,rfl,rfl⟩ ?_
 rintro i _ T hi ⟨rfl,rfl,v1⟩
 have e1:decide (((fr_+i:Nat):Int)≤(at_:Int))=decide (fr_+i<at_+1):=by simp only [lAP];omega
 refine z0A ?_
 rw [e1]
 cases hc:decide (fr_+i<at_+1)
 rotate_left
 ·simp only [lAE] at hc
  obtain ⟨rw2,hrow2⟩:=z0M (l:=rows) (i:=fr_+i) (by omega)
  have hrv2:(rows.map z4Z)[fr_+i]? =some (z4Z rw2):=by rw [lAK,hrow2];rfl
  obtain ⟨sc3,sc4⟩:=z9M rw2
  have hlr2:=hll rw2 (lAF hrow2)
  have k142:=a142 (H:=T) (caps:=[.ptr H.length 0]) (g:=103) (p:=fun m:Way=>m.2==at_+1) (zHJ rw2) (by rw [lAD];omega) zSw.hasBody (fun m hm=>a143 t5 (by omega))
  have hany:(rw2.map z1K).any (fun m=>m.2==at_+1)=(rows.getD (fr_+i) []).any fun q=>q.2==at_+1:=by
   rw [lAB,hrow2,List.any_map];rfl
  rw [hany] at k142
  generalize z4Z rw2=rw3 at *
  refine z0A ?_
  rw [sc4]
  refine z0A ?_
  refine z6P (vs:=[.ptr H.length 0]) rfl ?_
  refine z0J rfl k142 ?_
  cases hb:(rows.getD (fr_+i) []).any fun q=>q.2==at_+1
  ·refine z0A ?_
   exact ⟨by omega,rfl,rfl,z2r v1 hb⟩
  ·have hall:(List.range (at_+1-fr_)).any (fun i=>(rows.getD (fr_+i) []).any fun q=>q.2==at_+1)=true:=z3t (i:=i) (by omega) hb
   rw [hall,if_pos rfl,lAJ]
   refine z0A ?_
   refine z0W rfl (.inl ?_)
   obtain ⟨K,g1,g2⟩:=zAF (n:=H.length) tw (by omega)
   exact ⟨_,_,K,rfl,g1,rfl,tkk.sealedW tw (by omega) g2⟩
 simp only [lAC] at hc
 obtain rfl:i=at_+1-fr_:=by omega
 rw [v1,if_neg (by simp)]
 have hTl:=(lAA.1 t5).1
 refine z0A ?_
 refine z0s (out:=[.int .i64 (-1),.int .i64 (at_+1:Nat)]) rfl rfl ?_
 refine z0S (out:=[.int .i64 (-1),.int .i64 (at_+1:Nat)]) rfl ?_
 refine z3w (v:=u) rfl tw rfl rfl rfl (by rw [hrl2];omega) (by omega) ?_
 intro v' Z hko hpres hlen hfr2
 have zk:=tkk.growW tw (by omega) hpres hlen
 have hmo:(row.map z1K).map z1z++[.agg [.int .i64 (-1),.int .i64 (at_+1:Nat)]]=(row.map z1K++[(-1,at_+1)]).map z1z:=by rw [lBE];rfl
 rw [hmo] at hko
 refine z0A ?_
 refine z0W rfl (.inl ?_)
 obtain ⟨K,g1,g2⟩:=zAF (n:=H.length) hko (by omega)
 exact ⟨_,_,K,rfl,g1,rfl,zk.sealedW hko (by omega) g2⟩
theorem a80 (hs:Sl 2 pv (ps.map z4k)) (hr:Sl 1 rv (rows.map z4Z)) (hn:∀ l∈rows,∀ q∈l,q.1<ps.length) (hpl:∀ p∈ps,p.1.length≤1000000) (hat:at_<rows.length) (hrl:rows.length≤100000) (hll:∀ l∈rows,l.length≤100000) :
  z0C PP 57 [.cptr [pv,av,bv],rv,.agg [.int .i64 at_,.int .i64 fr_]] H (z1D H (.list 2 ((z5n 2 (z5a ps) (rows.getD at_ []) at_).map z1z))):=by
 refine z0C.gives (zZX.c3 z0P mixed rfl ?_)
 rw [lAJ]
 refine z1E (z0V ?_)
 refine z0y (.agg [.int .i64 at_,.int .i64 fr_]) rfl rfl ?_
 have x5:(H++[Blk.cells [.int .i64 at_,.int .i64 fr_]])[H.length]? =some (.cells [.int .i64 at_,.int .i64 fr_]):=z0E
 show VV _ _ _ (H++[Blk.cells [.int .i64 at_,.int .i64 fr_]]) _ _
 obtain ⟨row,hrow⟩:=z0M (l:=rows) (i:=at_) hat
 have hrv:(rows.map z4Z)[at_]? =some (z4Z row):=by rw [lAK,hrow];rfl
 obtain ⟨sc1,sc2⟩:=z9M row
 have hlr:=hll row (lAF hrow)
 have hgd:rows.getD at_ []=row:=by rw [lAB,hrow];rfl
 have k77:=fun H'=>a77 (av:=av) (bv:=bv) (H:=H') (kind:=2) (lv:=z4Z row) (l:=row) (at_:=at_) (fr_:=fr_) hs (zHJ row) (hn row (lAF hrow)) hpl hlr (by omega)
 rw [hgd]
 have hpl2:=z9T (z5n 2 (z5a ps) row at_)
 generalize AV.list 2 ((z5n 2 (z5a ps) row at_).map z1z)=res at *
 generalize z4Z row=rw_ at *
 generalize hG:[Blk.cells [.int .i64 at_,.int .i64 fr_]]=G at *
 refine z0A ?_
 refine z1B (z2D [H.length]) ?_
 refine z0A ?_
 rw [sc2]
 refine z0A ?_
 refine z8C rfl rfl (lAL _) (z0J rfl (k77 _) (z0j (fun _ _ _ _ q=>q) ?_))
 refine z0A ?_
 exact fr (hp:=hpl2)
theorem a81 (hs:Sl 2 pv (ps.map z4k)) (hr:Sl 1 rv (rows.map z4Z)) (hn:∀ l∈rows,∀ q∈l,q.1<ps.length) (hpl:∀ p∈ps,p.1.length≤1000000) (hat:at_<rows.length) (hrl:rows.length≤100000) (hll:∀ l∈rows,l.length≤100000) :
  z0C PP 58 [.cptr [pv,av,bv],rv,.agg [.int .i64 at_,.int .i64 fr_]] H (z1D H (.list 2 ((z5n 3 (z5a ps) (rows.getD at_ []) at_).map z1z))):=by
 refine z0C.gives (zZW.c3 z0P mixed rfl ?_)
 rw [lAJ]
 refine z1E (z0V ?_)
 refine z0y (.agg [.int .i64 at_,.int .i64 fr_]) rfl rfl ?_
 have x5:(H++[Blk.cells [.int .i64 at_,.int .i64 fr_]])[H.length]? =some (.cells [.int .i64 at_,.int .i64 fr_]):=z0E
 show VV _ _ _ (H++[Blk.cells [.int .i64 at_,.int .i64 fr_]]) _ _
 obtain ⟨row,hrow⟩:=z0M (l:=rows) (i:=at_) hat
 have hrv:(rows.map z4Z)[at_]? =some (z4Z row):=by rw [lAK,hrow];rfl
 obtain ⟨sc1,sc2⟩:=z9M row
 have hlr:=hll row (lAF hrow)
 have hgd:rows.getD at_ []=row:=by rw [lAB,hrow];rfl
 have k77:=fun H'=>a77 (av:=av) (bv:=bv) (H:=H') (kind:=3) (lv:=z4Z row) (l:=row) (at_:=at_) (fr_:=fr_) hs (zHJ row) (hn row (lAF hrow)) hpl hlr (by omega)
 rw [hgd]
 have hpl2:=z9T (z5n 3 (z5a ps) row at_)
 generalize AV.list 2 ((z5n 3 (z5a ps) row at_).map z1z)=res at *
 generalize z4Z row=rw_ at *
 generalize hG:[Blk.cells [.int .i64 at_,.int .i64 fr_]]=G at *
 refine z0A ?_
 refine z1B (z2D [H.length]) ?_
 refine z0A ?_
 rw [sc2]
 refine z0A ?_
 refine z8C rfl rfl (lAL _) (z0J rfl (k77 _) (z0j (fun _ _ _ _ q=>q) ?_))
 refine z0A ?_
 exact fr (hp:=hpl2)
def zNM:Blk:=.map [(.int .i64 0,.clo (.func 55) [] [],0),(.int .i64 1,.clo (.func 56) [] [],1),(.int .i64 2,.clo (.func 57) [] [],2),(.int .i64 3,.clo (.func 58) [] [],3)] 4
theorem a38 (H:z0B):z0C PP 23 [] H (fun r H'=>r=.ret (.map H.length)∧H'=H++[zNM]):=by
 refine Is.c0 z0P mixed is23 rfl ?_
 rw [lAJ]
 refine z0A ?_
 refine zCY ?_
 have up:∀ (es:z3T) (c:Nat) (k v:AV),(H++[Blk.map es c]).set H.length (zRx es c k v none)=H++[.map (es++[(k,v,c)]) (c+1)]:=fun es c k v=>by
  rw [lA6 _ _ (lAL _),lBG];rfl
 refine z4j (r:=none) rfl rfl rfl z0E rfl rfl ?_
 rw [up]
 refine z4j (r:=none) rfl rfl rfl z0E rfl rfl ?_
 rw [up]
 refine z4j (r:=none) rfl rfl rfl z0E rfl rfl ?_
 rw [up]
 refine z4j (r:=none) rfl rfl rfl z0E rfl rfl ?_
 rw [up]
 refine z0A ?_
 exact z0W rfl ⟨rfl,rfl⟩
end
def zPX (ps:List (Bt × Bt)) (fs gs:List (Bt→Bool)) (written x:Bt) (at_:Nat):List (Nat × Nat):=(atP ps fs gs written (x.drop at_)).map fun n=>(n,at_+z5a ps n)
section
variable {D:Nat→Bt→Bool} {aid mid:Nat} {H:z0B}
theorem a37 {lk pv av bv:AV} {ps:List (Bt × Bt)} {cs ds:List AV} {fs gs:List (Bt→Bool)} {kind:Int} {wr x:Bt} {at_ fr_:Nat} (hl:LookV D aid mid H lk pv av bv ps cs ds fs gs) (hw:wr.length≤1000000) (hx:x.length≤100000) (hat:at_≤x.length) (hps:ps.length≤1000) (hin:z0m D mid H H) :
  z0C PP 22 [lk,.int .i64 kind,.str wr,.str x,.agg [.int .i64 at_,.int .i64 fr_]] H (fun r H'=>r=.ret (.list 2 ((z5n kind (z5a ps) (zPX ps fs gs wr x at_) at_).map z1z))∧z0m D mid H H'):=by
 obtain rfl:=hl.eq
 refine Is.c5 z0P mixed is22 rfl ?_
 rw [lAJ]
 have hml:=hin.lt
 refine z1E (z0V ?_)
 refine z0y (.agg [.int .i64 at_,.int .i64 fr_]) rfl rfl ?_
 have x9:(H++[Blk.cells [.int .i64 at_,.int .i64 fr_]])[H.length]? =some (.cells [.int .i64 at_,.int .i64 fr_]):=z0E
 have xi:=hin.app [Blk.cells [.int .i64 at_,.int .i64 fr_]]
 have xl:(H++[Blk.cells [.int .i64 at_,.int .i64 fr_]]:z0B).length=H.length+1:=by simp
 show VV _ _ _ (H++[Blk.cells [.int .i64 at_,.int .i64 fr_]]) _ _
 generalize (H++[Blk.cells [.int .i64 at_,.int .i64 fr_]]:z0B)=X at *
 have k66:=a66 (hl.to xi) hw (x:=x.drop at_) (by simp;omega) xi.self
 have hsp:=hl.sp
 have hpl:=hl.pl
 refine z0A ?_
 refine z0L rfl k66 ?_ ?_
 rotate_left
 ·rintro u V' (⟨v,hu,_⟩ | ⟨p,_,hf⟩)
  ·cases hu
  ·exact hf.elim
 rintro u V (⟨v,hu,hv,hin1⟩ | ⟨p,hu,_⟩)
 rotate_left
 ·cases hu
 rw [hv] at hu
 cases hu
 have v9:=hin1.old (by omega) x9
 have vi:=xi.trans hin1
 have hnl:∀ n∈atP ps fs gs wr (x.drop at_),n<ps.length:=fun n hn=>lA8.1 (lBT.1 hn).1
 have hll:(atP ps fs gs wr (x.drop at_)).length≤ps.length:=z3X _ _
 have hno:zPX ps fs gs wr x at_=(atP ps fs gs wr (x.drop at_)).map fun n=>(n,at_+z5a ps n):=rfl
 generalize atP ps fs gs wr (x.drop at_)=l at *
 have hsl:=zHE (l.map z0k)
 have hlm:(l.map z0k).length=l.length:=lAD _
 generalize zAA (l.map z0k)=kl at *
 have hVl:=vi.len
 refine z0A ?_
 refine z0H l.length (fun i al W=>∃ ov,al=[(0,.cptr [pv,av,bv]),(1,.int .i64 kind),(9,.ptr H.length 0),(11,ov),(20,kl),(21,.int .i64 l.length),(22,.int .i64 i)]∧z0m D mid H W∧W[H.length]? =some (.cells [.int .i64 at_,.int .i64 fr_])∧z2h 2 (H.length+1) W ov ((((l.take i).map fun n=>(n,at_+z5a ps n)).map z1K).map z1z)∧H.length+1≤W.length) ⟨_,by rw [hlm];rfl,vi,v9,z2h.nil,by have:=hin1.len;omega⟩ ?_
 clear hVl v9 vi hin1 V x9 xi xl k66 X
 rintro i _ W hi ⟨ov,rfl,wi,w9,wo,wl⟩
 have e1:decide ((i:Int)<(l.length:Int))=decide (i<l.length):=by simp only [lAP];omega
 refine z0A ?_
 rw [e1]
 cases hc:decide (i<l.length)
 rotate_left
 ·simp only [lAE] at hc
  obtain ⟨n,hni⟩:=z0M (l:=l) (i:=i) hc
  have hnv:(l.map z0k)[i]? =some (z0k n):=by rw [lAK,hni];rfl
  obtain ⟨f,t,hp,hu,hfl,hm⟩:=zBL (hnl n (lAF hni))
  have hfl2:=hpl _ hm
  have hsn:(((l.take (i+1)).map fun n=>(n,at_+z5a ps n)).map z1K).map z1z=(((l.take i).map fun n=>(n,at_+z5a ps n)).map z1K).map z1z++[.agg [.int .i64 n,.int .i64 (at_+f.length:Nat)]]:=by
   rw [lA1,hni]
   simp only [Option.toList,lBE,lBA,lCU,hfl];rfl
  refine z0A ?_
  refine z1B (z2D [H.length]) ?_
  refine z0A ?_
  refine z2K (v:=.cptr [.str f,.str t]) rfl ?_
  refine z0A ?_
  refine z1N (a:=at_) (b:=f.length) rfl rfl (by simp only at hfl2;omega) ?_
  refine z0A ?_
  refine z0s (out:=[.int .i64 n,.int .i64 (at_+f.length:Nat)]) rfl rfl ?_
  refine z0A ?_
  refine z8C rfl rfl (lAL _) ?_
  refine z0S (out:=[.int .i64 n,.int .i64 (at_+f.length:Nat)]) rfl ?_
  refine z0j z2M ?_
  refine z8C rfl rfl (by simp) ?_
  have hol:((((l.take i).map fun n=>(n,at_+z5a ps n)).map z1K).map z1z).length≤1000:=by
   rw [lAD,lAD,lAD,lBR];omega
  refine z3w (v:=ov) rfl wo rfl rfl rfl (by omega) (by omega) ?_
  intro ov' Z hko hpres hlen hfr
  have z9:=hpres _ _ (wo.ne (by omega)) w9
  refine z0j (z0c fun j hj b hb'=>?_) ?_
  ·simp only [lAR] at hj
   subst hj
   rw [lAN (by omega)] at hb'
   exact hpres _ _ (wo.ne (by omega)) hb'
  refine z0A ?_
  exact ⟨hc,ov',rfl,wi.pres hml (fun j b hj hb=>hpres j b (wo.ne (by omega)) hb) hlen,z9,by rw [hsn];exact hko,by omega⟩
 simp only [lAC] at hc
 have htk:l.take i=l:=lAQ (by omega)
 rw [htk,←hno] at wo
 have hnow:∀ q∈zPX ps fs gs wr x at_,q.1<ps.length:=fun q hq=>by
  rw [hno] at hq
  obtain ⟨n,hn,rfl⟩:=lBB.1 hq
  exact hnl n hn
 have hnowl:(zPX ps fs gs wr x at_).length≤1000:=by rw [hno,lAD];omega
 generalize zPX ps fs gs wr x at_=now at *
 have k77:=fun (H':z0B) (lv:AV) (h:Sl 2 lv ((now.map z1K).map z1z))=>a77 (av:=av) (bv:=bv) (H:=H') (kind:=kind) (lv:=lv) (l:=now) (at_:=at_) (fr_:=fr_) hsp h hnow hpl (by omega) (by omega)
 generalize AV.list 2 ((z5n kind (z5a ps) now at_).map z1z)=res at *
 obtain ⟨h0,⟨he,rfl⟩ | ⟨kb,rfl,gk,hkb,_⟩⟩:=wo
 ·refine z0A ?_
  refine z0J rfl (k77 _ _ (by rw [he];exact .nil)) ?_
  refine z0A ?_
  exact z0W rfl ⟨rfl,wi⟩
 ·refine z0A ?_
  refine z0L (R:=z1D (W.set kb .dead) res) rfl (z0C.sealArgs (id:=kb) (args':=[.cptr [pv,av,bv],.int .i64 kind,.list 2 ((now.map z1K).map z1z),.agg [.int .i64 at_,.int .i64 fr_]]) gk rfl (fun i=>?_) (k77 _ _ (.list _))) ?_ ?_
  ·match i with
   | 0=>exact .refl _
   | 1=>exact .refl _
   | 2=>exact .sl 0 _ 2 ((now.map z1K).map z1z) rfl h0 (by rw [lBP,←z0t h0,lAW]) (by rw [z0t h0];omega)
   | 3=>exact .refl _
   | i+4=>exact .refl _
  rotate_left
  ·rintro u V' ⟨hu,_⟩
   cases hu
  rintro u V ⟨hu,rfl⟩
  cases hu
  refine z0A ?_
  exact z0W rfl ⟨rfl,wi.own (by omega) (by omega)⟩
end
theorem zJC {l:List Bt} (h:zLh l=0):zDV l:=by
 unfold zLh at h
 split at h
 ·cases h
 split at h
 ·cases h
 rename_i _ h2
 have h3:∀ i,0<i→i<l.length→l.getD (i-1) []<l.getD i []:=fun i h0 hi=>by
  have h2':(List.range l.length).any (z4X l)=false:=by simpa using h2
  rw [lB1] at h2'
  have:=h2' i (lA8.2 hi)
  unfold z4X at this
  simp only [lB2,lAS,lAE,Bool.not_eq_true',lAC,not_or,not_and,Decidable.not_not] at this
  exact this.2 h0
 unfold zDV
 rw [lDN]
 intro i j hi hj hij
 induction j with
 | zero=>omega
 | succ j ih =>
  have hs:=h3 (j+1) (by omega) hj
  rw [lAB,lAB,Nat.add_sub_cancel,lAG (by omega),lAG hj] at hs
  simp only [lCY] at hs
  rcases lBJ i j with h | h
  ·exact List.lt_trans (ih (by omega) h) hs
  ·have:i=j:=by omega
   subst this;exact hs
def z7G (sg:List Bt) (t:Bt):Bool:=!decide (t∈sg)
section
variable {sv xv:AV} {sg x:List Bt} {r:Ru}
theorem z7r (r:Ru):z6F r=.agg [.int .i64 r.kind,z0T r.pn r.pairs,z0U r.ln r.places,.bool r.below]:=rfl
theorem a52 (hsv:Sl 1 sv (sg.map .str)) (hsg:zDV sg) (hsgn:sg.length≤1000000) (hx:Sl 1 xv (x.map .str)) (hxn:x.length≤1000000) (hr:okR2 r) (H:z0B) :
  z0C PP 41 [.list 4 [z6F r],sv,xv] H (z1D H (.bool ((z7y r++x).any (z7G sg)))):=by
 refine z0C.plainE (z0N.bool _) ?_
 have k104:=fun (X:z0B) (ks:List Bt) hM=>c26 r hr (H:=X) (M:=H.length) (ks:=ks) hM
 have hrs:Sl 4 (.list 4 [z6F r]) [z6F r]:=.list _
 have hr0:[z6F r][0]? =some (.agg [.int .i64 r.kind,z0T r.pn r.pairs,z0U r.ln r.places,.bool r.below]):=rfl
 have hlx:(x.map AV.str).length=x.length:=lAD _
 have hsc:AV.scalar (z0T r.pn r.pairs)=true:=z1n _ _
 have hsc2:AV.scalar (z0U r.ln r.places)=true:=z1p _ _
 rw [z7r] at k104
 generalize z0T r.pn r.pairs=pv at *
 generalize z0U r.ln r.places=lv at *
 generalize hlist:AV.list 4 [z6F r]=rl at *
 refine zZc.c3 z0P mixed rfl ?_
 rw [lAJ]
 refine z0A ?_
 refine zCY ?_
 have x7:(H++[Blk.map [] 0])[H.length]? =some (MB []):=z0E
 have xo:∀ (j:Nat) (b:Blk),H[j]? =some b→(H++[Blk.map [] 0])[j]? =some b:=fun j b h=>z0G h
 have xl:(H++[Blk.map [] 0]:z0B).length=H.length+1:=by simp
 generalize (H++[Blk.map [] 0]:z0B)=X at *
 refine z0A ?_
 refine z0H 1 (fun i al W=>al=[(1,sv),(2,xv),(7,.map H.length),(16,rl),(17,.int .i64 1),(18,.int .i64 i)]∧W[H.length]? =some (MB (if i=0 then [] else z0x [] (z7y r)))∧(∀ (j:Nat) (b:Blk),H[j]? =some b→W[j]? =some b)∧H.length+1≤W.length) ⟨rfl,x7,xo,by omega⟩ ?_
 clear x7 xo xl X
 rintro i _ W hi ⟨rfl,w7,wo,wl⟩
 have e1:decide ((i:Int)<1)=decide (i<1):=by simp only [lAP];omega
 have hHl:∀ (j:Nat) (b:Blk),H[j]? =some b→j<H.length:=fun j b h=>(lAA.1 h).1
 refine z0A ?_
 rw [e1]
 cases hc:decide (i<1)
 rotate_left
 ·simp only [lAE] at hc
  obtain rfl:i=0:=by omega
  rw [if_pos rfl] at w7
  refine z0A ?_
  refine z0z (ws:=[.int .i64 r.kind,pv,lv,.bool r.below]) rfl rfl rfl rfl rfl (by simp only [lB3,hsc,hsc2];rfl) ?_
  have y9:(W++[Blk.cells [.int .i64 r.kind,pv,lv,.bool r.below]])[W.length]? =some (.cells [.int .i64 r.kind,pv,lv,.bool r.below]):=z0E
  have y7:=z0G (G:=[Blk.cells [.int .i64 r.kind,pv,lv,.bool r.below]]) w7
  have yo:∀ (j:Nat) (b:Blk),H[j]? =some b→(W++[Blk.cells [.int .i64 r.kind,pv,lv,.bool r.below]])[j]? =some b:=fun j b h=>z0G (wo j b h)
  have yl:(W++[Blk.cells [.int .i64 r.kind,pv,lv,.bool r.below]]:z0B).length=W.length+1:=by simp
  generalize (W++[Blk.cells [.int .i64 r.kind,pv,lv,.bool r.below]]:z0B)=Y at *
  generalize W.length=b9 at *
  refine z0A ?_
  refine z0L rfl (k104 Y [] y7) ?_ ?_
  rotate_left
  ·rintro u V' ⟨hu,_⟩
   cases hu
  rintro u V ⟨_,hU⟩
  have v7:=hU.get
  have hVl:Y.length≤V.length:=by obtain ⟨_,G,rfl⟩:=hU;simp
  refine z0A ?_
  exact ⟨by omega,rfl,v7,fun j b h=>hU.old (by have:=hHl j b h;omega) (yo j b h),by omega⟩
 simp only [lAC] at hc
 obtain rfl:i=1:=by omega
 rw [if_neg (by omega)] at w7
 generalize hks0:z0x [] (z7y r)=ks0 at *
 refine z0A ?_
 refine z0H x.length (fun i al V=>al=[(1,sv),(7,.map H.length),(26,xv),(27,.int .i64 x.length),(28,.int .i64 i)]∧V[H.length]? =some (MB (z0x ks0 (x.take i)))∧(∀ (j:Nat) (b:Blk),H[j]? =some b→V[j]? =some b)∧H.length+1≤V.length) ⟨by rw [hlx];rfl,w7,wo,wl⟩ ?_
 clear w7 wo wl W e1 hi hc
 rintro i _ W hi ⟨rfl,w7,wo,wl⟩
 have e1:decide ((i:Int)<(x.length:Int))=decide (i<x.length):=by simp only [lAP];omega
 refine z0A ?_
 rw [e1]
 cases hc:decide (i<x.length)
 rotate_left
 ·simp only [lAE] at hc
  obtain ⟨s,hs⟩:=z0M (l:=x) (i:=i) hc
  have hu:(x.map AV.str)[i]? =some (.str s):=by rw [lAK,hs];rfl
  have hsn:z0x ks0 (x.take (i+1))=zPZ (z0x ks0 (x.take i)) s:=by
   rw [lA1,hs]
   unfold z0x
   rw [lD2];rfl
  refine z0A ?_
  refine zMG rfl rfl w7 ?_
  refine z0A ?_
  refine ⟨hc,rfl,?_,fun j b h=>z0K (wo j b h) (by have:=hHl j b h;omega),by simpa using wl⟩
  rw [hsn]
  exact lAT (by omega)
 simp only [lAC] at hc
 have htk:x.take i=x:=lAQ (by omega)
 rw [htk] at w7
 have hres:(z7y r++x).any (z7G sg)=(z0x ks0 x).any (z7G sg):=by
  rw [←hks0,←z1T,lBM,lA0,lA0]
  constructor
  ·rintro ⟨t,h1,h2⟩
   exact ⟨t,(z9h _ _ _).2 (.inr h1),h2⟩
  ·rintro ⟨t,h1,h2⟩
   rcases (z9h _ _ _).1 h1 with h | h
   ·cases h
   ·exact ⟨t,h,h2⟩
 have hnd:(z0x ks0 x).Nodup:=by rw [←hks0,←z1T];exact z9x _ _ (by simp)
 rw [hres]
 generalize z0x ks0 x=ks at *
 clear hres hc e1 hi htk
 refine z0A ?_
 refine zPt rfl w7 ?_
 have hit:(W++[.iter (some H.length) ks.length [] ks.length])[W.length]? =some (.iter (some H.length) ks.length [] ks.length):=z0E
 have hM:=z0G (G:=[Blk.iter (some H.length) ks.length [] ks.length]) w7
 have ho:∀ (j:Nat) (b:Blk),H[j]? =some b→(W++[Blk.iter (some H.length) ks.length [] ks.length])[j]? =some b:=fun j b h=>z0G (wo j b h)
 generalize hitn:W.length=it at *
 generalize (W++[Blk.iter (some H.length) ks.length [] ks.length]:z0B)=Y at *
 have hitM:it≠H.length:=by omega
 have hit0:H.length<it:=by omega
 refine z0A ?_
 refine z0H ks.length (fun i al V=>∃ seen,seen.length=i∧al=[(1,sv),(36,.ptr it 0)]∧V[it]? =some (.iter (some H.length) ks.length seen ks.length)∧V[H.length]? =some (MB ks)∧(∀ (j:Nat) (b:Blk),H[j]? =some b→V[j]? =some b)∧seen.Nodup∧(∀ j∈seen,j<ks.length)∧(zYK ks seen).any (z7G sg)=false) ⟨[],rfl,rfl,hit,hM,ho,by simp,by simp,rfl⟩ ?_
 clear hit hM ho Y w7 wo wl hitn W
 rintro i _ V hi ⟨seen,hsl,rfl,hit,hM,ho,hsn,hsb,hany⟩
 have hVl:=(lAA.1 hM).1
 refine z0A ?_
 refine zHA rfl hit hM ?_ ?_
 ·intro hall
  have hperm:=zNU hsn hsb hall
  have hf:ks.any (z7G sg)=false:=by
   rw [lB1] at hany ⊢
   exact fun t ht=>hany t (hperm.mem_iff.2 ht)
  rw [hf]
  refine z0A ?_
  exact z0W rfl (.inl ⟨_,rfl,rfl,fun p hp=>(by cases hp),fun j b _ h=>ho j b h,by omega⟩)
 ·intro i' k hk hns
  have hin:=(lAA.1 hk).1
  have hsn':(seen++[i']).Nodup:=by
   rw [List.nodup_append]
   refine ⟨hsn,by simp,?_⟩
   intro a ha b hb e
   rw [lAR] at hb
   subst hb;subst e;exact hns ha
  have hsb':∀ j∈seen++[i'],j<ks.length:=by
   intro j hj
   rcases lA5.1 hj with h | h
   ·exact hsb j h
   ·rw [lAR.1 h];exact hin
  have hlt:=zDz _ _ hsn' hsb'
  rw [lAH,lBZ] at hlt
  have hgo:=zHe ks seen i' k hk
  have hit2:(V.set it (.iter (some H.length) ks.length (seen++[i']) ks.length))[it]? =some (.iter (some H.length) ks.length (seen++[i']) ks.length):=zLJ hit
  have hM2:(V.set it (.iter (some H.length) ks.length (seen++[i']) ks.length))[H.length]? =some (MB ks):=zDA hM (fun e=>hitM e.symm)
  have ho2:∀ (j:Nat) (b:Blk),H[j]? =some b→(V.set it (.iter (some H.length) ks.length (seen++[i']) ks.length))[j]? =some b:=fun j b h=>by
   have:=hHl j b h
   exact zDA (ho j b h) (by omega)
  have hl2:(V.set it (.iter (some H.length) ks.length (seen++[i']) ks.length)).length=V.length:=lCC
  generalize V.set it (.iter (some H.length) ks.length (seen++[i']) ks.length)=Y at *
  clear hit hM ho
  refine z0A ?_
  refine zFC rfl hit2 hM2 hk ?_
  refine z0A ?_
  refine z0L rfl (a105 hsv hsg hsgn (t:=k) _) ?_ ?_
  rotate_left
  ·rintro u V' ⟨i,hu,_⟩
   cases hu
  rintro u V' ⟨ix,hu,_,rfl⟩
  cases hu
  cases hb:decide (k∈sg)
  ·have hf:ks.any (z7G sg)=true:=lA0.2 ⟨k,lAF hk,by unfold z7G;rw [hb];rfl⟩
   rw [hf]
   refine z0A ?_
   exact z0W rfl (.inl ⟨_,rfl,rfl,fun p hp=>(by cases hp),fun j b _ h=>ho2 j b h,by omega⟩)
  ·refine z0A ?_
   refine ⟨by omega,seen++[i'],by simp [hsl],rfl,hit2,hM2,ho2,hsn',hsb',?_⟩
   rw [hgo,lDJ,hany]
   simp [z7G,hb]
end
end Go.Ab
