/- Part 42 of the proof. -/
import Derived.Test.YtgpnlpieipoogaaGreatDoorA41
set_option linter.unusedVariables false
set_option linter.unusedSimpArgs false
namespace Go.Ab
open Go
set_option maxRecDepth 100000
set_option maxHeartbeats 8000000
theorem z1P {P:Program} {H:Heap} {al:AL} {K:KL} {Qp:AL→AV→Heap→Prop} {os:List IOper} {x y:Arg} {k id:Nat} {cs ws:List AV} (hx:evL al x=.ptr id 0) (hy:evL al y=.agg ws) (hg:H[id]? =some (.cells cs)) (hl:cs.length=k) (hw:ws.length=k) (hs:ws.all AV.scalar=true)
  (h:VV P os al (H.set id (.cells ws)) K Qp):VV P (⟨none,.i (.m (.store k)),[x,y],none,none⟩::os) al H K Qp :=
 z0X (.agg ws) hx hy hg (by simp [AV.shaped,AV.cells,hw,hl];simpa using hs) (setAt_all (by simp [AV.cells,hw,hl])) rfl h
abbrev Z4:List AV:=[.int .i64 0,.nilslice,.nilslice,.bool false]
theorem OwnL.scalar {sz lo:Nat} {H:Heap} {v:AV} {l:List AV} (h:OwnL sz lo H v l):AV.scalar v=true:=by
 rcases h.2 with ⟨_,rfl⟩ | ⟨id,rfl,_⟩<;>rfl
def RuS (H:Heap) (rid:Nat) (l:List Bt) (x:Option (Ru × Bool)) (v:AV) (K:Heap):Prop :=
 (∀ (j:Nat) (b:Blk),j≠rid→H[j]? =some b→K[j]? =some b)∧match x with
 | some (r,g)=>v=.tuple [encR r,.bool true]∧∃ q,K[rid]? =some (RR l q g)∧q≤l.length
 | none=>(∃ a b c d,v=.tuple [.agg [a,b,c,d],.bool false]∧([a,b,c,d]:List AV).all AV.scalar=true)∧∃ q g,K[rid]? =some (RR l q g)∧q≤l.length
theorem res20 {al:AL} {H':Heap} {n:Nat} {cs:List AV} {a:AV} (h2:look al 2=.ptr n 0) (h3:look al 3=a) (hg:H'[n]? =some (.cells cs)) (hl:cs.length=4) :
  resultL ic18.rs al H'=some (.tuple [.agg cs,a]):=by
 have hd:dpart (some 4) cs 0=some (.agg cs):=dpart_all hl
 have e:rload (some 4) (look al 2) H'=some (.agg cs):=by rw [h2];simp only [rload,hg,hd]
 show (match resVL [.cell 2 (some 4),.tmp 3] al H' with | some [v]=>some v | some vs=>some (.tuple vs) | none=>none)=_
 simp only [resVL,e,h3]
theorem fail20 {H K:Heap} {rid n q:Nat} {l:List Bt} {g:Bool} {x:Option (Ru × Bool)} {a b c d:AV} (hx:none=x) (hs:([a,b,c,d]:List AV).all AV.scalar=true) (hg:K[rid]? =some (RR l q g)) (hq:q≤l.length)
  (hold:∀ (j:Nat) (b:Blk),j≠rid→H[j]? =some b→K[j]? =some b):EndsX n (RuS H rid l x) (fun _ _=>False) (.ret (.tuple [.agg [a,b,c,d],.bool false])) K:=by
 subst hx
 exact .inl ⟨_,_,K,rfl,.done _ _,hold,⟨a,b,c,d,rfl,hs⟩,q,g,hg,hq⟩
theorem ok20 {H K:Heap} {rid q:Nat} {l:List Bt} {g below:Bool} {x:Option (Ru × Bool)} {kd:Int} {pv:AV} {prs:List Pr} {ps:List Pl} (hx:some ((⟨kd,true,prs,true,ps,below⟩:Ru),g)=x) (hO:OwnL 2 (H.length+2) K pv (prs.map encP)) (hne:prs≠[]) (hr:rid<H.length)
  (hg:K[rid]? =some (RR l q g)) (hq:q≤l.length) (hold:∀ (j:Nat) (b:Blk),j≠rid→H[j]? =some b→K[j]? =some b) :
  EndsX H.length (RuS H rid l x) (fun _ _=>False) (.ret (.tuple [.agg [.int .i64 kd,pv,lsV 6 (ps.map encPl),.bool below],.bool true])) K:=by
 subst hx
 obtain ⟨h0,⟨h,_⟩ | ⟨id,rfl,h3,h4,h5⟩⟩:=hO
 ·simp at h;exact absurd h hne
 have hlj:∀ (j:Nat) (b:Blk),H[j]? =some b→j<H.length:=fun j b h=>(List.getElem?_eq_some_iff.1 h).1
 have he:encPs true prs=.list 2 (prs.map encP):=by
  unfold encPs;rw [if_neg];simpa using hne
 refine .inl ⟨_,.tuple [encR ⟨kd,true,prs,true,ps,below⟩,.bool true],K.set id .dead,rfl,.step id _ (by omega) h3 (.base _ _ ?_) (.done _ _),fun j b h1 h2=>z0A (hold j b h1 h2) (by have:=hlj j b h2;omega),rfl,q,z0A hg (by omega),hq⟩
 unfold encR
 simp only
 rw [he,encLs_lsV]
 refine .tuple _ _ rfl fun i=>?_
 match i with
 | 0 =>
  refine .agg _ _ rfl fun i=>?_
  match i with
  | 0=>exact .refl _
  | 1=>exact .sl 0 _ 2 _ rfl h0 (by rw [List.drop_zero,←flat_len h0,List.take_length]) (by rw [flat_len h0];omega)
  | 2=>exact .refl _
  | 3=>exact .refl _
  | i+4=>exact .refl _
 | 1=>exact .refl _
 | i+2=>exact .refl _
theorem c20 {rid:Nat} {l:List Bt} {H:Heap} (hg:H[rid]? =some (RR l 0 false)) (hl:l.length≤10000) (hls:∀ y∈l,y.length≤6000) (hj:∀ q,(Lib.join (l.drop q) [32]).length≤6000) :
  ACall PP 18 [.ptr rid 0] H (Ends (RuS H rid l (ruleP l)) (fun _ _=>False)):=by
 have hrl:=(List.getElem?_eq_some_iff.1 hg).1
 refine ACall.sealed (n:=H.length) ?_
 refine is18.c1 z0W mixed rfl ?_
 rw [List.append_nil]
 unfold ruleP
 generalize hx:ruleF l (l.length+1) 0 (-1) [] false=xx
 have hlj:∀ (j:Nat) (b:Blk),H[j]? =some b→j<H.length:=fun j b h=>(List.getElem?_eq_some_iff.1 h).1
 have hsl2:(l.map AV.str).length=l.length:=List.length_map _
 have hsl:=sl_strs l
 refine z0E ?_
 refine z0R (out:=[.int .i64 (-1),.nilslice,.nilslice,.bool false]) rfl rfl ?_
 refine z1Q ?_
 have hl1:(H++[Blk.cells Z4]:Heap).length=H.length+1:=by simp
 rw [hl1]
 have g0:(H++[Blk.cells Z4]++[Blk.cells Z4]:Heap)[H.length]? =some (.cells Z4):=z0H z0Q
 have g1:(H++[Blk.cells Z4]++[Blk.cells Z4]:Heap)[H.length+1]? =some (.cells Z4):=by rw [←hl1];exact z0Q
 have gr:(H++[Blk.cells Z4]++[Blk.cells Z4]:Heap)[rid]? =some (RR l 0 false):=z0H (z0H hg)
 have go:∀ (j:Nat) (b:Blk),j≠rid→H[j]? =some b→(H++[Blk.cells Z4]++[Blk.cells Z4]:Heap)[j]? =some b:=fun j b _ h=>z0H (z0H h)
 have gl:(H++[Blk.cells Z4]++[Blk.cells Z4]:Heap).length=H.length+2:=by simp
 generalize (H++[Blk.cells Z4]++[Blk.cells Z4]:Heap)=X at *
 refine z1P (k:=4) (ws:=[.int .i64 (-1),.nilslice,.nilslice,.bool false]) rfl rfl g1 rfl rfl rfl ?_
 have f0:=z0A (y:=Blk.cells [.int .i64 (-1),.nilslice,.nilslice,.bool false]) (b:=H.length+1) g0 (by omega)
 have f1:=z0C (y:=Blk.cells [.int .i64 (-1),.nilslice,.nilslice,.bool false]) g1
 have fr:=z0A (y:=Blk.cells [.int .i64 (-1),.nilslice,.nilslice,.bool false]) (b:=H.length+1) gr (by omega)
 have fo:∀ (j:Nat) (b:Blk),j≠rid→H[j]? =some b→(X.set (H.length+1) (.cells [.int .i64 (-1),.nilslice,.nilslice,.bool false]))[j]? =some b:=fun j b h1 h=>z0A (go j b h1 h) (by have:=hlj j b h;omega)
 have fl:(X.set (H.length+1) (.cells [.int .i64 (-1),.nilslice,.nilslice,.bool false])).length=H.length+2:=by rw [List.length_set,gl]
 generalize X.set (H.length+1) (.cells [.int .i64 (-1),.nilslice,.nilslice,.bool false])=Y at *
 clear g0 g1 gr go gl hl1 X
 refine z0E ?_
 refine z2G (fun m al H'=>∃ (p:Nat) (kd:Int) (prs:List Pr) (pv:AV) (g:Bool),al=[(0,.ptr rid 0),(2,.ptr H.length 0),(4,.ptr (H.length+1) 0)]∧H'[rid]? =some (RR l p g)∧H'[H.length]? =some (.cells Z4)∧H'[H.length+1]? =some (.cells [.int .i64 kd,pv,.nilslice,.bool false]) ∧
  OwnL 2 (H.length+2) H' pv (prs.map encP)∧(∀ (j:Nat) (b:Blk),j≠rid→H[j]? =some b→H'[j]? =some b)∧p≤l.length∧H.length+2≤H'.length∧prs.length≤p∧l.length+1≤p+m∧ruleF l m p kd prs g=xx) (l.length+1)
  ⟨0,-1,[],_,false,rfl,fr,f0,f1,.nil,fo,by omega,by omega,by simp,by omega,hx⟩ ?_
 clear f0 f1 fr fo fl hx Y
 rintro m _ V ⟨p,kd,prs,pv,g,rfl,hgV,h0,h1,hO,hold,hp,hVl,hpl,hpm,hx⟩
 cases m with
 | zero=>omega
 | succ m =>
 rw [ruleF] at hx
 have hsc0:∀ k:Int,([.int .i64 k,pv,.nilslice,.bool false]:List AV).all AV.scalar=true:=fun k=>by
  simp only [List.all_cons,hO.scalar,List.all_nil];rfl
 refine z0E ?_
 refine z1W rfl (c53 hgV hp (by omega) hls) ?_ ?_
 rotate_left
 ·rintro v H' ⟨h,_⟩;cases h
 rintro v H' ⟨h,rfl⟩
 cases h
 have kg:=z0C (y:=RR l (pcA l p) (g||greatW (l.getD p []))) hgV
 have k0:=z0A (y:=RR l (pcA l p) (g||greatW (l.getD p []))) (b:=rid) h0 (by omega)
 have k1:=z0A (y:=RR l (pcA l p) (g||greatW (l.getD p []))) (b:=rid) h1 (by omega)
 have kO:OwnL 2 (H.length+2) (V.set rid (RR l (pcA l p) (g||greatW (l.getD p [])))) pv (prs.map encP):=hO.mono fun j b hj h=>z0A h (by omega)
 have kold:∀ (j:Nat) (b:Blk),j≠rid→H[j]? =some b→(V.set rid (RR l (pcA l p) (g||greatW (l.getD p []))))[j]? =some b:=fun j b h1 h=>z0A (hold j b h1 h) h1
 have kl:H.length+2≤(V.set rid (RR l (pcA l p) (g||greatW (l.getD p [])))).length:=by rw [List.length_set];exact hVl
 have hpc:pcA l p≤l.length:=by unfold pcA;split<;>omega
 generalize V.set rid (RR l (pcA l p) (g||greatW (l.getD p [])))=V1 at *
 clear hgV h0 h1 hO hold hVl V
 cases hw1:wordP (l.getD p []) with
 | none =>
  rw [hw1] at hx
  simp only [Option.getD_none,Option.isSome_none] at hx ⊢
  refine z0E ?_
  refine z0E ?_
  refine z1P (k:=4) (ws:=[.int .i64 kd,pv,.nilslice,.bool false]) rfl rfl k0 rfl rfl (hsc0 _) ?_
  refine z0E ?_
  exact z1G (res20 rfl rfl (z0C k0) rfl) (fail20 hx (hsc0 _) (z0A kg (by omega)) hpc (fun j b h1 h2=>z0A (kold j b h1 h2) (by have:=hlj j b h2;omega)))
 | some w1 =>
 have hp1:=wordP_lt hw1
 rw [hw1] at hx
 simp only [Option.getD_some,Option.isSome_some] at hx ⊢
 have hpe:pcA l p=p+1:=by unfold pcA;rw [if_pos hp1]
 rw [hpe] at kg
 clear hpe hpc
 generalize (g||greatW (l.getD p []))=g' at *
 have hget:=getD_get (d:=([]:Bt)) hp1
 have hc:=map_str hget
 generalize l.getD p []=s1 at *
 refine z0E ?_
 refine z3P rfl (by omega) (by omega) ?_
 refine z0E ?_
 refine wi_cut (fun al' H'=>H'=V1∧look al' 0=.ptr rid 0∧look al' 2=.ptr H.length 0∧look al' 4=.ptr (H.length+1) 0∧look al' 5=encW ⟨true,unB s1 w1⟩) ?_ ?_
 ·unfold unB
  cases hb:(s1==[91,93])
  ·refine z0E ?_
   exact ⟨rfl,rfl,rfl,rfl,rfl⟩
  ·refine z0E ?_
   exact ⟨rfl,rfl,rfl,rfl,rfl⟩
 rintro al' V2 ⟨rfl,a0,a2,a4,a5⟩
 generalize unB s1 w1=u1 at *
 clear hc hget hw1
 refine z2V (z1N ?_)
 refine z3A (.ptr rid 0) a0 ?_
 refine z1W rfl (c55 kg (by omega) (by omega)) ?_ ?_
 rotate_left
 ·rintro v H' ⟨h,_⟩;cases h
 rintro v H' ⟨h,rfl⟩
 cases h
 have qg:=z0C (y:=RR l (pcA l (p+1)) g') kg
 have q0:=z0A (y:=RR l (pcA l (p+1)) g') (b:=rid) k0 (by omega)
 have q1:=z0A (y:=RR l (pcA l (p+1)) g') (b:=rid) k1 (by omega)
 have qO:OwnL 2 (H.length+2) (V2.set rid (RR l (pcA l (p+1)) g')) pv (prs.map encP):=kO.mono fun j b hj h=>z0A h (by omega)
 have qold:∀ (j:Nat) (b:Blk),j≠rid→H[j]? =some b→(V2.set rid (RR l (pcA l (p+1)) g'))[j]? =some b:=fun j b h1 h=>z0A (kold j b h1 h) h1
 have ql:H.length+2≤(V2.set rid (RR l (pcA l (p+1)) g')).length:=by rw [List.length_set];exact kl
 generalize V2.set rid (RR l (pcA l (p+1)) g')=V3 at *
 clear kg k0 k1 kO kold kl V2
 refine z0F rfl (c54 _ _) ?_
 refine z3A (.int .i64 (kOf (l.getD (p+1) []))) rfl ?_
 refine z3T (al':=[(0,.ptr rid 0),(2,.ptr H.length 0),(4,.ptr (H.length+1) 0),(5,encW ⟨true,u1⟩),(7,.int .i64 (kOf (l.getD (p+1) [])))]) ?_ (nx_n ?_)
 ·show [(0,look al' 0),(2,look al' 2),(4,look al' 4),(5,look al' 5),(7,_)]=_
  rw [a0,a2,a4,a5]
  rfl
 clear a0 a2 a4 a5 al'
 have hkl:decide (kOf (l.getD (p+1) [])<0)=false→p+1<l.length:=kOf_lt
 generalize kOf (l.getD (p+1) [])=k at *
 refine z0E ?_
 have hqp:pcA l (p+1)≤l.length:=by unfold pcA;split<;>omega
 refine z3Y [(0,.ptr rid 0),(2,.ptr H.length 0),(4,.ptr (H.length+1) 0),(5,encW ⟨true,u1⟩),(7,.int .i64 k),(47,.bool (decide (k<0)||(decide (kd≥0)&&k != kd)))] V3 ?_ ?_
 ·cases b1:decide (k<0)
  ·refine z0E ?_
   cases b2:decide (kd≥0)
   ·refine z0E ?_
    exact z0Z rfl rfl
   ·refine z0E ?_
    exact z0Z rfl rfl
  ·refine z0E ?_
   exact z0Z rfl rfl
 cases hbad:(decide (k<0)||(decide (kd≥0)&&k != kd))
 rotate_left
 ·rw [hbad] at hx
  simp only [if_true] at hx
  refine z0E ?_
  refine z0E ?_
  refine z1P (k:=4) (ws:=[.int .i64 kd,pv,.nilslice,.bool false]) rfl rfl q0 rfl rfl (hsc0 _) ?_
  refine z0E ?_
  exact z1G (res20 rfl rfl (z0C q0) rfl) (fail20 hx (hsc0 _) (z0A qg (by omega)) hqp (fun j b h1 h2=>z0A (qold j b h1 h2) (by have:=hlj j b h2;omega)))
 rw [hbad] at hx
 simp only [Bool.false_eq_true,if_false] at hx
 have hp2:=hkl (Bool.or_eq_false_iff.1 hbad).1
 have hpe:pcA l (p+1)=p+2:=by unfold pcA;rw [if_pos hp2]
 rw [hpe] at qg
 clear hpe hbad hkl hqp
 refine z0E ?_
 refine z5C (v:=.int .i64 k) rfl rfl q1 rfl (by simp) ?_
 show VV _ _ _ (V3.set (H.length+1) (.cells [.int .i64 k,pv,.nilslice,.bool false])) _ _
 have rg:=z0A (y:=Blk.cells [.int .i64 k,pv,.nilslice,.bool false]) (b:=H.length+1) qg (by omega)
 have r0:=z0A (y:=Blk.cells [.int .i64 k,pv,.nilslice,.bool false]) (b:=H.length+1) q0 (by omega)
 have r1:=z0C (y:=Blk.cells [.int .i64 k,pv,.nilslice,.bool false]) q1
 have rO:OwnL 2 (H.length+2) (V3.set (H.length+1) (.cells [.int .i64 k,pv,.nilslice,.bool false])) pv (prs.map encP):=qO.mono fun j b hj h=>z0A h (by omega)
 have rold:∀ (j:Nat) (b:Blk),j≠rid→H[j]? =some b→(V3.set (H.length+1) (.cells [.int .i64 k,pv,.nilslice,.bool false]))[j]? =some b:=fun j b h1 h=>z0A (qold j b h1 h) (by have:=hlj j b h;omega)
 have rl:H.length+2≤(V3.set (H.length+1) (.cells [.int .i64 k,pv,.nilslice,.bool false])).length:=by rw [List.length_set];exact ql
 generalize V3.set (H.length+1) (.cells [.int .i64 k,pv,.nilslice,.bool false])=V4 at *
 clear qg q0 q1 qO qold ql V3
 refine z0E ?_
 refine z1W rfl (c53 rg (by omega) (by omega) hls) ?_ ?_
 rotate_left
 ·rintro v H' ⟨h,_⟩;cases h
 rintro v H' ⟨h,rfl⟩
 cases h
 have sg:=z0C (y:=RR l (pcA l (p+2)) (g'||greatW (l.getD (p+2) []))) rg
 have s0:=z0A (y:=RR l (pcA l (p+2)) (g'||greatW (l.getD (p+2) []))) (b:=rid) r0 (by omega)
 have s1:=z0A (y:=RR l (pcA l (p+2)) (g'||greatW (l.getD (p+2) []))) (b:=rid) r1 (by omega)
 have sO:OwnL 2 (H.length+2) (V4.set rid (RR l (pcA l (p+2)) (g'||greatW (l.getD (p+2) [])))) pv (prs.map encP):=rO.mono fun j b hj h=>z0A h (by omega)
 have sold:∀ (j:Nat) (b:Blk),j≠rid→H[j]? =some b→(V4.set rid (RR l (pcA l (p+2)) (g'||greatW (l.getD (p+2) []))))[j]? =some b:=fun j b h1 h=>z0A (rold j b h1 h) h1
 have sl:H.length+2≤(V4.set rid (RR l (pcA l (p+2)) (g'||greatW (l.getD (p+2) [])))).length:=by rw [List.length_set];exact rl
 generalize V4.set rid (RR l (pcA l (p+2)) (g'||greatW (l.getD (p+2) [])))=V5 at *
 clear rg r0 r1 rO rold rl V4
 have hsp:pcA l (p+2)≤l.length:=by unfold pcA;split<;>omega
 cases hw2:wordP (l.getD (p+2) []) with
 | none =>
  rw [hw2] at hx
  simp only [Option.getD_none,Option.isSome_none] at hx ⊢
  refine z0E ?_
  refine z0E ?_
  refine z1P (k:=4) (ws:=[.int .i64 k,pv,.nilslice,.bool false]) rfl rfl s0 rfl rfl (hsc0 _) ?_
  refine z0E ?_
  exact z1G (res20 rfl rfl (z0C s0) rfl) (fail20 hx (hsc0 _) (z0A sg (by omega)) hsp (fun j b h1 h2=>z0A (sold j b h1 h2) (by have:=hlj j b h2;omega)))
 | some w2 =>
 have hp3:=wordP_lt hw2
 rw [hw2] at hx
 simp only [Option.getD_some,Option.isSome_some] at hx ⊢
 have hpe:pcA l (p+2)=p+3:=by unfold pcA;rw [if_pos hp3]
 rw [hpe] at sg
 clear hpe hsp
 generalize (g'||greatW (l.getD (p+2) []))=g2 at *
 have hget2:=getD_get (d:=([]:Bt)) hp3
 have hc2:(l.map AV.str)[p+3-1]? =some (.str (l.getD (p+2) [])):=map_str hget2
 generalize l.getD (p+2) []=s2 at *
 refine z0E ?_
 refine z3P rfl (by omega) (by omega) ?_
 refine z0E ?_
 refine wi_cut (fun al' H'=>H'=V5∧look al' 0=.ptr rid 0∧look al' 2=.ptr H.length 0∧look al' 4=.ptr (H.length+1) 0∧look al' 5=encW ⟨true,u1⟩∧look al' 8=encW ⟨true,unB s2 w2⟩) ?_ ?_
 ·unfold unB
  cases hb:(s2==[91,93])
  ·refine z0E ?_
   exact ⟨rfl,rfl,rfl,rfl,rfl,rfl⟩
  ·refine z0E ?_
   exact ⟨rfl,rfl,rfl,rfl,rfl,rfl⟩
 rintro al' V6 ⟨rfl,a0,a2,a4,a5,a8⟩
 generalize unB s2 w2=u2 at *
 clear hc2 hget2 hw2
 have hs1:=scalar_W ⟨true,u1⟩
 have hs2:=scalar_W ⟨true,u2⟩
 generalize hpr:(⟨⟨true,u1⟩,⟨true,u2⟩⟩:Pr)=pr at *
 have hep:encP pr=.agg [encW ⟨true,u1⟩,encW ⟨true,u2⟩]:=by rw [←hpr];rfl
 clear hpr
 generalize encW ⟨true,u1⟩=e1 at *
 generalize encW ⟨true,u2⟩=e2 at *
 refine z2V (z1N ?_)
 refine z1M a4 ?_
 refine z1T (v:=pv) rfl s1 rfl ?_
 refine z3A e1 a5 ?_
 refine z3A e2 a8 ?_
 refine z0R (out:=[e1,e2]) rfl (by
  show fillA [.nilslice,.nilslice] [(0,1),(1,1)] [e1,e2]=some [e1,e2]
  simp [fillA,shaped_one hs1,shaped_one hs2,cells_one hs1,cells_one hs2,setAt]) ?_
 refine z0V (out:=[e1,e2]) rfl ?_
 refine st_appL (lo:=H.length+2) (sz:=2) (l:=prs.map encP) (cs:=[e1,e2]) rfl sO rfl rfl (by simp [hs1,hs2]) (by rw [List.length_map];omega) sl ?_
 intro v' W hO' hold' hlen
 rw [←hep,show prs.map encP++[encP pr]=(prs++[pr]).map encP by simp] at hO'
 refine z1M a4 ?_
 refine z5C (v:=v') rfl rfl (hold' _ _ (by omega) s1) hO'.scalar (by simp) ?_
 refine z3T (al':=[(0,.ptr rid 0),(2,.ptr H.length 0),(4,.ptr (H.length+1) 0)]) ?_ (nx_n ?_)
 ·show [(0,look al' 0),(2,look al' 2),(4,look al' 4)]=_
  rw [a0,a2,a4]
 show WI _ _ _ _ (W.set (H.length+1) (.cells [.int .i64 k,v',.nilslice,.bool false]))
 have hscv:AV.scalar v'=true:=hO'.scalar
 have hsc4:∀ b:Bool,([.int .i64 k,v',.nilslice,.bool b]:List AV).all AV.scalar=true:=fun b=>by
  simp only [List.all_cons,hscv,List.all_nil];rfl
 have tg:=z0A (y:=Blk.cells [.int .i64 k,v',.nilslice,.bool false]) (b:=H.length+1) (hold' _ _ (by omega) sg) (by omega)
 have t0:=z0A (y:=Blk.cells [.int .i64 k,v',.nilslice,.bool false]) (b:=H.length+1) (hold' _ _ (by omega) s0) (by omega)
 have t1:=z0C (y:=Blk.cells [.int .i64 k,v',.nilslice,.bool false]) (hold' _ _ (by omega) s1)
 have tO:OwnL 2 (H.length+2) (W.set (H.length+1) (Blk.cells [.int .i64 k,v',.nilslice,.bool false])) v' ((prs++[pr]).map encP):=hO'.mono fun j b hj h=>z0A h (by omega)
 have told:∀ (j:Nat) (b:Blk),j≠rid→H[j]? =some b→(W.set (H.length+1) (Blk.cells [.int .i64 k,v',.nilslice,.bool false]))[j]? =some b:=fun j b h1 h=>z0A (hold' _ _ (by have:=hlj j b h;omega) (sold j b h1 h)) (by have:=hlj j b h;omega)
 have tl:H.length+2≤(W.set (H.length+1) (Blk.cells [.int .i64 k,v',.nilslice,.bool false])).length:=by rw [List.length_set];omega
 have hpn:prs++[pr]≠[]:=by simp
 have hpnl:(prs++[pr]).length≤p+1:=by simp;omega
 generalize W.set (H.length+1) (Blk.cells [.int .i64 k,v',.nilslice,.bool false])=V7 at *
 generalize prs++[pr]=prs2 at *
 clear sg s0 s1 sO sold sl hO' hold' hlen a0 a2 a4 a5 a8 hep hs1 hs2 hsc0
 clear al' V6 W
 have e1':(((p+3:Nat):Int)==((l.map AV.str).length:Int))=(p+3==l.length):=by rw [hsl2];exact nat_eq _ _
 refine z0E ?_
 rw [e1']
 cases hend:(p+3==l.length)
 rotate_left
 ·rw [hend] at hx
  simp only [if_true] at hx
  refine z0E ?_
  refine z1P (k:=4) (ws:=[.int .i64 k,v',.nilslice,.bool false]) rfl rfl t0 rfl rfl (hsc4 _) ?_
  refine z0E ?_
  exact z1G (res20 rfl rfl (z0C t0) rfl) (ok20 (ps:=[]) hx (tO.mono fun j b hj h=>z0A h (by omega)) hpn hrl (z0A tg (by omega)) (by omega) (fun j b h1 h2=>z0A (told j b h1 h2) (by have:=hlj j b h2;omega)))
 rw [hend] at hx
 simp only [Bool.false_eq_true,if_false] at hx
 have hp4:p+3<l.length:=by
  have:p+3≠l.length:=by simpa using hend
  omega
 refine z0E ?_
 refine z1W rfl (c55 tg (by omega) (by omega)) ?_ ?_
 rotate_left
 ·rintro v H' ⟨h,_⟩;cases h
 rintro v H' ⟨h,rfl⟩
 cases h
 have ug:=z0C (y:=RR l (pcA l (p+3)) g2) tg
 have u0:=z0A (y:=RR l (pcA l (p+3)) g2) (b:=rid) t0 (by omega)
 have u1:=z0A (y:=RR l (pcA l (p+3)) g2) (b:=rid) t1 (by omega)
 have uO:OwnL 2 (H.length+2) (V7.set rid (RR l (pcA l (p+3)) g2)) v' (prs2.map encP):=tO.mono fun j b hj h=>z0A h (by omega)
 have uold:∀ (j:Nat) (b:Blk),j≠rid→H[j]? =some b→(V7.set rid (RR l (pcA l (p+3)) g2))[j]? =some b:=fun j b h1 h=>z0A (told j b h1 h) h1
 have ul:H.length+2≤(V7.set rid (RR l (pcA l (p+3)) g2)).length:=by rw [List.length_set];exact tl
 generalize V7.set rid (RR l (pcA l (p+3)) g2)=V8 at *
 clear tg t0 t1 tO told tl V7
 have hpe:pcA l (p+3)=p+4:=by unfold pcA;rw [if_pos hp4]
 rw [hpe] at ug
 clear hpe
 generalize l.getD (p+3) []=sn at *
 refine z0E ?_
 cases b1:(sn==[44])
 rotate_left
 ·rw [b1] at hx
  simp only [if_true] at hx
  refine z0E ?_
  exact ⟨m,by omega,p+4,k,prs2,v',g2,rfl,ug,u0,u1,uO,uold,by omega,ul,by omega,by omega,hx⟩
 rw [b1] at hx
 simp only [Bool.false_eq_true,if_false] at hx
 refine z0E ?_
 cases b2:(sn==[124,124])
 rotate_left
 ·rw [b2] at hx
  simp only [if_true] at hx
  refine z0E ?_
  refine z1W rfl (c56 ug (by omega) (by omega) u1 (by omega) rfl (hj _)) ?_ ?_
  rotate_left
  ·rintro v H' hv
   split at hv
   ·cases hv.1
   ·cases hv.1
  rintro v H' hv
  cases hplc:plcP l (p+4) with
  | none =>
   rw [hplc] at hv hx
   simp only at hv hx
   obtain ⟨h,⟨q,hq⟩,⟨lw,hlw,hl1⟩,hvo⟩:=hv
   cases h
   have w0:=hvo _ _ (by omega) (by omega) u0
   have wold:∀ (j:Nat) (b:Blk),j≠rid→H[j]? =some b→H'[j]? =some b:=fun j b h1 h=>hvo j b h1 (by have:=hlj j b h;omega) (uold j b h1 h)
   have hsw:([.int .i64 k,v',lw,.bool false]:List AV).all AV.scalar=true:=by
    simp only [List.all_cons,hscv,hlw,List.all_nil];rfl
   refine z0E ?_
   refine z1P (k:=4) (ws:=[.int .i64 k,v',lw,.bool false]) rfl rfl w0 rfl rfl hsw ?_
   refine z0E ?_
   exact z1G (res20 rfl rfl (z0C w0) rfl) (fail20 hx hsw (z0A hq (by omega)) (by omega) (fun j b h1 h2=>z0A (wold j b h1 h2) (by have:=hlj j b h2;omega)))
  | some q =>
   obtain ⟨ps,h2⟩:=q
   rw [hplc] at hv hx
   simp only at hv hx
   obtain ⟨h,rfl⟩:=hv
   cases h
   have hlw:AV.scalar (lsV 6 (ps.map encPl))=true:=by unfold lsV;split<;>rfl
   have w0:=z0A (y:=RR l (p+4) (g2||h2)) (b:=rid) (z0A (y:=Blk.cells [.int .i64 k,v',lsV 6 (ps.map encPl),.bool false]) (b:=H.length+1) u0 (by omega)) (by omega)
   have w1:=z0A (y:=RR l (p+4) (g2||h2)) (b:=rid) (z0C (y:=Blk.cells [.int .i64 k,v',lsV 6 (ps.map encPl),.bool false]) u1) (by omega)
   have wg:=z0C (y:=RR l (p+4) (g2||h2)) (z0A (y:=Blk.cells [.int .i64 k,v',lsV 6 (ps.map encPl),.bool false]) (b:=H.length+1) ug (by omega))
   have wO:OwnL 2 (H.length+2) ((V8.set (H.length+1) (.cells [.int .i64 k,v',lsV 6 (ps.map encPl),.bool false])).set rid (RR l (p+4) (g2||h2))) v' (prs2.map encP):=uO.mono fun j b hj h=>z0A (z0A h (by omega)) (by omega)
   have wold:∀ (j:Nat) (b:Blk),j≠rid→H[j]? =some b→((V8.set (H.length+1) (.cells [.int .i64 k,v',lsV 6 (ps.map encPl),.bool false])).set rid (RR l (p+4) (g2||h2)))[j]? =some b:=fun j b h1 h=>z0A (z0A (uold j b h1 h) (by have:=hlj j b h;omega)) h1
   generalize ((V8.set (H.length+1) (.cells [.int .i64 k,v',lsV 6 (ps.map encPl),.bool false])).set rid (RR l (p+4) (g2||h2)):Heap)=V9 at *
   have hsw:([.int .i64 k,v',lsV 6 (ps.map encPl),.bool false]:List AV).all AV.scalar=true:=by
    simp only [List.all_cons,hscv,hlw,List.all_nil];rfl
   refine z0E ?_
   refine z1P (k:=4) (ws:=[.int .i64 k,v',lsV 6 (ps.map encPl),.bool false]) rfl rfl w0 rfl rfl hsw ?_
   refine z0E ?_
   exact z1G (res20 rfl rfl (z0C w0) rfl) (ok20 hx (wO.mono fun j b hj h=>z0A h (by omega)) hpn hrl (z0A wg (by omega)) (by omega) (fun j b h1 h2=>z0A (wold j b h1 h2) (by have:=hlj j b h2;omega)))
 rw [b2] at hx
 simp only [Bool.false_eq_true,if_false] at hx
 refine z0E ?_
 cases b3:(sn==[47,47])
 rotate_left
 ·rw [b3] at hx
  simp only [if_true] at hx
  refine z0E ?_
  refine z5C (v:=.bool true) rfl rfl u1 rfl (by simp) ?_
  show VV _ _ _ (V8.set (H.length+1) (.cells [.int .i64 k,v',.nilslice,.bool true])) _ _
  replace ug:=z0A (y:=Blk.cells [.int .i64 k,v',.nilslice,.bool true]) (b:=H.length+1) ug (by omega)
  replace u0:=z0A (y:=Blk.cells [.int .i64 k,v',.nilslice,.bool true]) (b:=H.length+1) u0 (by omega)
  replace u1:=z0C (y:=Blk.cells [.int .i64 k,v',.nilslice,.bool true]) u1
  replace uO:OwnL 2 (H.length+2) (V8.set (H.length+1) (.cells [.int .i64 k,v',.nilslice,.bool true])) v' (prs2.map encP):=uO.mono fun j b hj h=>z0A h (by omega)
  replace uold:∀ (j:Nat) (b:Blk),j≠rid→H[j]? =some b→(V8.set (H.length+1) (.cells [.int .i64 k,v',.nilslice,.bool true]))[j]? =some b:=fun j b h1 h=>z0A (uold j b h1 h) (by have:=hlj j b h;omega)
  replace ul:H.length+2≤(V8.set (H.length+1) (.cells [.int .i64 k,v',.nilslice,.bool true])).length:=by rw [List.length_set];exact ul
  generalize V8.set (H.length+1) (.cells [.int .i64 k,v',.nilslice,.bool true])=V8 at *
  refine z0E ?_
  refine z1W rfl (c56 ug (by omega) (by omega) u1 (by omega) rfl (hj _)) ?_ ?_
  rotate_left
  ·rintro v H' hv
   split at hv
   ·cases hv.1
   ·cases hv.1
  rintro v H' hv
  cases hplc:plcP l (p+4) with
  | none =>
   rw [hplc] at hv hx
   simp only at hv hx
   obtain ⟨h,⟨q,hq⟩,⟨lw,hlw,hl1⟩,hvo⟩:=hv
   cases h
   have w0:=hvo _ _ (by omega) (by omega) u0
   have wold:∀ (j:Nat) (b:Blk),j≠rid→H[j]? =some b→H'[j]? =some b:=fun j b h1 h=>hvo j b h1 (by have:=hlj j b h;omega) (uold j b h1 h)
   have hsw:([.int .i64 k,v',lw,.bool true]:List AV).all AV.scalar=true:=by
    simp only [List.all_cons,hscv,hlw,List.all_nil];rfl
   refine z0E ?_
   refine z1P (k:=4) (ws:=[.int .i64 k,v',lw,.bool true]) rfl rfl w0 rfl rfl hsw ?_
   refine z0E ?_
   exact z1G (res20 rfl rfl (z0C w0) rfl) (fail20 hx hsw (z0A hq (by omega)) (by omega) (fun j b h1 h2=>z0A (wold j b h1 h2) (by have:=hlj j b h2;omega)))
  | some q =>
   obtain ⟨ps,h2⟩:=q
   rw [hplc] at hv hx
   simp only at hv hx
   obtain ⟨h,rfl⟩:=hv
   cases h
   have hlw:AV.scalar (lsV 6 (ps.map encPl))=true:=by unfold lsV;split<;>rfl
   have w0:=z0A (y:=RR l (p+4) (g2||h2)) (b:=rid) (z0A (y:=Blk.cells [.int .i64 k,v',lsV 6 (ps.map encPl),.bool true]) (b:=H.length+1) u0 (by omega)) (by omega)
   have w1:=z0A (y:=RR l (p+4) (g2||h2)) (b:=rid) (z0C (y:=Blk.cells [.int .i64 k,v',lsV 6 (ps.map encPl),.bool true]) u1) (by omega)
   have wg:=z0C (y:=RR l (p+4) (g2||h2)) (z0A (y:=Blk.cells [.int .i64 k,v',lsV 6 (ps.map encPl),.bool true]) (b:=H.length+1) ug (by omega))
   have wO:OwnL 2 (H.length+2) ((V8.set (H.length+1) (.cells [.int .i64 k,v',lsV 6 (ps.map encPl),.bool true])).set rid (RR l (p+4) (g2||h2))) v' (prs2.map encP):=uO.mono fun j b hj h=>z0A (z0A h (by omega)) (by omega)
   have wold:∀ (j:Nat) (b:Blk),j≠rid→H[j]? =some b→((V8.set (H.length+1) (.cells [.int .i64 k,v',lsV 6 (ps.map encPl),.bool true])).set rid (RR l (p+4) (g2||h2)))[j]? =some b:=fun j b h1 h=>z0A (z0A (uold j b h1 h) (by have:=hlj j b h;omega)) h1
   generalize ((V8.set (H.length+1) (.cells [.int .i64 k,v',lsV 6 (ps.map encPl),.bool true])).set rid (RR l (p+4) (g2||h2)):Heap)=V9 at *
   have hsw:([.int .i64 k,v',lsV 6 (ps.map encPl),.bool true]:List AV).all AV.scalar=true:=by
    simp only [List.all_cons,hscv,hlw,List.all_nil];rfl
   refine z0E ?_
   refine z1P (k:=4) (ws:=[.int .i64 k,v',lsV 6 (ps.map encPl),.bool true]) rfl rfl w0 rfl rfl hsw ?_
   refine z0E ?_
   exact z1G (res20 rfl rfl (z0C w0) rfl) (ok20 hx (wO.mono fun j b hj h=>z0A h (by omega)) hpn hrl (z0A wg (by omega)) (by omega) (fun j b h1 h2=>z0A (wold j b h1 h2) (by have:=hlj j b h2;omega)))
 rw [b3] at hx
 simp only [Bool.false_eq_true,if_false] at hx
 refine z0E ?_
 refine z0E ?_
 refine z1P (k:=4) (ws:=[.int .i64 k,v',.nilslice,.bool false]) rfl rfl u0 rfl rfl (hsc4 _) ?_
 refine z0E ?_
 exact z1G (res20 rfl rfl (z0C u0) rfl) (fail20 hx (hsc4 _) (z0A ug (by omega)) (by omega) (fun j b h1 h2=>z0A (uold j b h1 h2) (by have:=hlj j b h2;omega)))
theorem z4H (x y:Bt) (r:List Bt) (sep:Bt):Lib.join (x::y::r) sep=x++sep++Lib.join (y::r) sep:=by
 rw [Lib.join_cons,Lib.join_cons]
 simp [Lib.joinTail]
theorem join_spl:∀ s:Bt,Lib.join (spl s) [32]=s
 | []=>by simp [spl,Lib.join_one]
 | c::t=>by
  have ih:=join_spl t
  have hne:=spl_ne t
  unfold spl
  split
  ·rename_i h
   have hc:c=32:=by simpa using h
   cases hs:spl t with
   | nil=>exact absurd hs hne
   | cons y r=>rw [z4H,←hs,ih,hc];rfl
  ·cases hs:spl t with
   | nil=>exact absurd hs hne
   | cons y r =>
    rw [hs] at ih
    simp only
    cases r with
    | nil=>rw [Lib.join_one] at ih ⊢;rw [ih]
    | cons z r=>rw [z4H] at ih ⊢;rw [←ih];simp
theorem join_drop (sep:Bt):∀ (l:List Bt) (q:Nat),(Lib.join (l.drop q) sep).length≤(Lib.join l sep).length
 | [],q=>by simp
 | x::l,0=>by simp
 | x::l,q+1=>by
  have ih:=join_drop sep l q
  rw [List.drop_succ_cons]
  refine Nat.le_trans ih ?_
  cases l with
  | nil=>simp [Lib.join_nil]
  | cons y r=>rw [z4H];simp;omega
theorem wordF_ok (N:Nat):∀ (n:Nat) (s:Bt) (acc w:List Bt),wordF n s acc=some w→s.length≤N→(∀ y∈acc,y.length≤N)→w.length≤acc.length+n∧∀ y∈w,y.length≤N
 | 0,s,acc,w,h,_,_=>by cases h
 | n+1,s,acc,w,h,hs,ha=>by
  simp only [wordF] at h
  split at h
  ·injection h with h;subst h;exact ⟨by omega,ha⟩
  ·split at h
   ·cases h
   ·rename_i y k hy
    obtain ⟨h1,h2,h3⟩:=symAt_pos hy
    split at h
    ·obtain ⟨a,b⟩:=wordF_ok N n _ _ w h (by rw [List.length_drop];omega) (fun z hz=>by
      rcases List.mem_append.1 hz with hz | hz
      ·exact ha z hz
      ·rw [List.mem_singleton] at hz;subst hz;omega)
     exact ⟨by simp at a;omega,b⟩
    ·cases h
theorem wordP_ok {s:Bt} {w:List Bt} (h:wordP s=some w) (hs:s.length≤100000):okW w:=by
 unfold wordP at h
 split at h
 ·cases h
 ·obtain ⟨a,b⟩:=wordF_ok 100000 _ _ _ _ h hs (by simp)
  simp at a
  exact ⟨by omega,fun y hy=>by have:=b y hy;unfold okS;omega⟩
theorem unB_ok {s:Bt} {w:List Bt} (h:okW w):okW (unB s w):=by
 unfold unB;split
 ·exact ⟨by simp,by simp⟩
 ·exact h
theorem tgr_w:∀ n,(tgr n).w≤2*n+1
 | 0=>by simp [tgr,lf,Ex.w,ws]
 | n+1=>by
  have:=tgr_w n
  simp only [tgr,nd,Ex.w,ws,List.length_cons,List.length_nil];omega
theorem exP_ok (s:Bt):okE (exP s).1:=by
 unfold exP
 have hz:okE Z0:=by simp [okE,Ex.w,ws]
 split
 ·exact hz
 ·rename_i hl
  split
  ·rename_i e q he
   have h:=pe_ok _ _ _ _ _ rfl he (Nat.zero_le _)
   have h2:=h.2.2.1
   simp only [Md.wt] at h2
   have hl:s.length≤6000:=by simp at hl;omega
   split
   ·split
    ·split
     ·exact hz
     ·have:=h.2.1;simp only at this h2 ⊢;unfold okE;omega
    ·exact hz
   ·exact hz
  ·exact hz
theorem sideP_ok {k:Nat} {t:Bt} {x:Ex} {g:Bool} (h:sideP k t=some (x,g)):okE x:=by
 unfold sideP at h
 simp only at h
 generalize (if k==0 then t.take (t.length-1) else t.drop 1)=u at h
 split at h
 ·cases h
 ·split at h
  ·injection h with h;injection h with h _;subst h
   have:=tgr_w 12;unfold okE;omega
  ·injection h with h;injection h with h _;subst h
   exact exP_ok _
theorem sidesF_ok {l:List Bt}:∀ {i:Nat} {E:List Ex} {g:Bool},sidesF l i=some (E,g)→∀ e∈E,okE e
 | 0,E,g,h=>by
  simp only [sidesF] at h;injection h with h;injection h with h _;subst h
  intro e he
  have:e=lf 2:=by simpa using he
  subst this;simp [okE,lf,Ex.w,ws]
 | i+1,E,g,h=>by
  simp only [sidesF] at h
  split at h
  ·cases h
  ·rename_i E' g' h'
   have ih:=sidesF_ok h'
   split at h
   ·injection h with h;injection h with h _;subst h;exact ih
   ·split at h
    ·cases h
    ·rename_i x hx hsd
     injection h with h;injection h with h _;subst h
     intro e he
     rcases List.mem_or_eq_of_mem_set he with he | he
     ·exact ih e he
     ·subst he
      exact sideP_ok hsd
theorem readI_ok {L:List Bt}:∀ {i:Nat} {ps:List Pl} {g:Bool},readI L i=some (ps,g)→∀ p∈ps,okE p.1∧okE p.2
 | 0,ps,g,h=>by simp only [readI] at h;injection h with h;injection h with h _;subst h;simp
 | i+1,ps,g,h=>by
  simp only [readI] at h
  split at h
  ·cases h
  ·rename_i h'
   have ih:=readI_ok h'
   split at h
   ·cases h
   ·split at h
    ·cases h
    ·rename_i E k ho
     injection h with h;injection h with h _;subst h
     have hE:∀ e∈E,okE e:=by
      unfold oneP at ho
      split at ho
      ·exact sidesF_ok ho
      ·cases ho
     have hEl:=oneP_len ho
     intro p hp
     rcases List.mem_append.1 hp with hp | hp
     ·exact ih p hp
     ·rw [List.mem_singleton] at hp;subst hp
      match E,hEl,hE with
      | [a,b],_,hE=>exact ⟨hE a (by simp),hE b (by simp)⟩
theorem plcP_ok {l:List Bt} {p:Nat} {ps:List Pl} {g:Bool} (h:plcP l p=some (ps,g)) (hj:(Lib.join (l.drop p) [32]).length≤100000):ps.length≤1000000∧∀ p∈ps,okE p.1∧okE p.2:=by
 unfold plcP at h
 split at h
 ·cases h
 ·unfold readP at h
  have:=readI_len h
  have h2:=cutS_le (Lib.join (l.drop p) [32]) 59 (n:=100002) (by omega)
  exact ⟨by omega,readI_ok h⟩
theorem ruleF_ok {l:List Bt} (hl:∀ y∈l,y.length≤100000) (hj:∀ q,(Lib.join (l.drop q) [32]).length≤100000):∀ {n p:Nat} {kd:Int} {prs:List Pr} {g g':Bool} {r:Ru},ruleF l n p kd prs g=some (r,g') →
  prs.length+n≤1000000→(∀ p∈prs,okP p)→okR r
 | 0,p,kd,prs,g,g',r,h,_,_=>by cases h
 | n+1,p,kd,prs,g,g',r,h,hn,hp=>by
  have hgl:∀ i,(l.getD i []).length≤100000:=fun i=>by
   rw [List.getD_eq_getElem?_getD]
   cases hi:l[i]? with
   | none=>simp
   | some y=>exact hl y (List.mem_of_getElem? hi)
  simp only [ruleF] at h
  split at h
  ·cases h
  ·rename_i w1 h1
   split at h
   ·cases h
   ·split at h
    ·cases h
    ·rename_i w2 h2
     have k1:=unB_ok (s:=l.getD p []) (wordP_ok h1 (hgl _))
     have k2:=unB_ok (s:=l.getD (p+2) []) (wordP_ok h2 (hgl _))
     have hp':∀ q∈prs++[(⟨⟨true,unB (l.getD p []) w1⟩,⟨true,unB (l.getD (p+2) []) w2⟩⟩:Pr)],okP q:=by
      intro q hq
      rcases List.mem_append.1 hq with hq | hq
      ·exact hp q hq
      ·rw [List.mem_singleton] at hq;subst hq;exact ⟨k1,k2⟩
     have hn':(prs++[(⟨⟨true,unB (l.getD p []) w1⟩,⟨true,unB (l.getD (p+2) []) w2⟩⟩:Pr)]).length+n≤1000000:=by simp;omega
     generalize prs++[(⟨⟨true,unB (l.getD p []) w1⟩,⟨true,unB (l.getD (p+2) []) w2⟩⟩:Pr)]=prs2 at *
     split at h
     ·injection h with h;injection h with h _;subst h
      exact ⟨by simp only;omega,by simp,hp',by simp⟩
     ·split at h
      ·exact ruleF_ok hl hj h hn' hp'
      ·split at h
       ·split at h
        ·cases h
        ·rename_i ps q hq
         obtain ⟨a,b⟩:=plcP_ok hq (hj _)
         injection h with h;injection h with h _;subst h
         exact ⟨by simp only;omega,by simp only;omega,hp',b⟩
       ·split at h
        ·split at h
         ·cases h
         ·rename_i ps q hq
          obtain ⟨a,b⟩:=plcP_ok hq (hj _)
          injection h with h;injection h with h _;subst h
          exact ⟨by simp only;omega,by simp only;omega,hp',b⟩
        ·cases h
theorem join_spl_drop (s:Bt) (q:Nat):(Lib.join ((spl s).drop q) [32]).length≤s.length:=by
 have:=join_drop [32] (spl s) q
 rw [join_spl] at this;exact this
def Ru0:Ru:=⟨0,true,[],true,[],false⟩
def rpP (s:Bt):Ru × Int :=
 if decide ((s.length:Int)>6000) then (Ru0,3) else match ruleP (spl s) with
 | none=>(Ru0,2)
 | some (r,g)=>if g then (Ru0,3) else if vrule r != 0 then (Ru0,vrule r) else (r,0)
def RpS (s:Bt) (v:AV):Prop:=∃ n:Nat,v=.tuple [encR (rpP s).1,.int .i64 n,.int .i64 (rpP s).2]∧n≤(spl s).length∧((rpP s).2≠2→n=0)
theorem plain_R (r:Ru):Plain (encR r):=by
 obtain ⟨k,pn,prs,ln,ps,b⟩:=r
 unfold encR
 refine Plain.agg fun x hx=>?_
 simp only [List.mem_cons,List.not_mem_nil,or_false] at hx
 rcases hx with rfl | rfl | rfl | rfl
 ·exact Plain.int _ _
 ·unfold encPs;split
  ·exact Plain.nilslice
  ·exact Plain.list _ fun y hy=>by
    obtain ⟨p,_,rfl⟩:=List.mem_map.1 hy
    refine Plain.agg fun z hz=>?_
    simp only [List.mem_cons,List.not_mem_nil,or_false] at hz
    rcases hz with rfl | rfl
    ·exact plain_W _
    ·exact plain_W _
 ·unfold encLs;split
  ·exact Plain.nilslice
  ·exact Plain.list _ fun y hy=>by obtain ⟨p,_,rfl⟩:=List.mem_map.1 hy;exact plain_Pl p
 ·exact Plain.bool _
theorem RpS.plain {s:Bt} {v:AV} (h:RpS s v):Plain v:=by
 obtain ⟨n,rfl,_⟩:=h
 refine Plain.tuple fun x hx=>?_
 simp only [List.mem_cons,List.not_mem_nil,or_false] at hx
 rcases hx with rfl | rfl | rfl
 ·exact plain_R _
 ·exact Plain.int _ _
 ·exact Plain.int _ _
theorem res6 {al:AL} {H':Heap} {n:Nat} {cs:List AV} {a b:AV} (h2:look al 2=.ptr n 0) (h3:look al 3=a) (h4:look al 4=b) (hg:H'[n]? =some (.cells cs)) (hl:cs.length=4) :
  resultL ic7.rs al H'=some (.tuple [.agg cs,a,b]):=by
 have hd:dpart (some 4) cs 0=some (.agg cs):=dpart_all hl
 have e:rload (some 4) (look al 2) H'=some (.agg cs):=by rw [h2];simp only [rload,hg,hd]
 show (match resVL [.cell 2 (some 4),.tmp 3,.tmp 4] al H' with | some [v]=>some v | some vs=>some (.tuple vs) | none=>none)=_
 simp only [resVL,e,h3,h4]
theorem st_boxG {P:Program} {H:Heap} {al:AL} {K:KL} {Qp:AL→AV→Heap→Prop} {os:List IOper} {d:Nat} {x:Arg} {v:AV} (hx:evL al x=v) (hs:v.shaped=true) (h:VV P os ((d,.ptr H.length 0)::al) (H++[.cells v.cells]) K Qp) :
  VV P (⟨some d,.i (.m .box),[x],none,none⟩::os) al H K Qp:=by
 have:=z4C (H:=H) (G:=[]) (n:=0) (G':=[.cells v.cells]) (K:=K) (Qp:=Qp) (P:=P) (os:=os) (d:=d) v hx hs rfl rfl h
 rw [List.append_nil] at this;exact this
theorem c6 (s:Bt) (H:Heap):ACall PP 7 [.str s] H (fun r H'=>∃ v,r=.ret v∧RpS s v∧H'=H):=by
 refine ACall.forgetE (fun _ h=>h.plain) ?_
 refine is7.c1 z0W mixed rfl ?_
 rw [List.append_nil]
 have hlj:∀ (j:Nat) (b:Blk),H[j]? =some b→j<H.length:=fun j b h=>(List.getElem?_eq_some_iff.1 h).1
 have g0:(H++[Blk.cells Z4])[H.length]? =some (.cells Z4):=z0Q
 have go:∀ (j:Nat) (b:Blk),H[j]? =some b→(H++[Blk.cells Z4])[j]? =some b:=fun j b h=>z0H h
 have gl:(H++[Blk.cells Z4]:Heap).length=H.length+1:=by simp
 have hX:∀ (h:decide ((s.length:Int)>6000)=false),rpP s=match ruleP (spl s) with
  | none=>(Ru0,2)
  | some (r,g)=>if g then (Ru0,3) else if vrule r != 0 then (Ru0,vrule r) else (r,0):=fun h=>by unfold rpP;rw [h];rfl
 have fin:∀ {K:Heap} {al:AL} {k:Int} {n:Nat},look al 2=.ptr H.length 0→look al 3=.int .i64 n→look al 4=.int .i64 k→K[H.length]? =some (.cells Z4)→(∀ (j:Nat) (b:Blk),H[j]? =some b→K[j]? =some b)→rpP s=(Ru0,k)→n≤(spl s).length→(k≠2→n=0) →
   fpostL ic7.rs (fun r H'=>∃ v,r=.ret v∧RpS s v∧∃ G,H'=H++G) .ret al K:=by
  intro K al k n h2 h3 h4 hg ho hr hn hk
  refine z1G (res6 h2 h3 h4 hg rfl) ⟨_,rfl,⟨n,?_,hn,?_⟩,ext_old ho⟩
  ·rw [hr];rfl
  ·rw [hr];exact hk
 refine z0E ?_
 cases hlen:decide ((s.length:Int)>6000)
 rotate_left
 ·have hr:rpP s=(Ru0,3):=by unfold rpP;rw [hlen];rfl
  refine z0E ?_
  refine z0R (out:=Z4) rfl rfl ?_
  refine z1P (k:=4) (ws:=Z4) rfl rfl g0 rfl rfl rfl ?_
  refine z0E ?_
  exact fin (n:=0) rfl rfl rfl (z0C g0) (fun j b h=>z0A (go j b h) (by have:=hlj j b h;omega)) hr (by omega) (fun _=>rfl)
 replace hX:=hX hlen
 have hs:s.length≤6000:=by simp at hlen;omega
 have hls:∀ y∈spl s,y.length≤6000:=fun y hy=>Nat.le_trans (spl_mem hy) hs
 have hsl:=spl_le s
 have hsj:=join_spl_drop s
 generalize (H++[Blk.cells Z4]:Heap)=X at *
 refine z0E ?_
 refine z0F rfl (c19 s (by omega) X) ?_
 generalize spl s=l at *
 refine z0R (out:=[.list 1 (l.map .str),.int .i64 (0:Nat),.bool false]) rfl rfl ?_
 refine st_boxG (v:=.agg [.list 1 (l.map .str),.int .i64 (0:Nat),.bool false]) rfl rfl ?_
 have k0:=z0H (G:=[RR l 0 false]) g0
 have ko:∀ (j:Nat) (b:Blk),H[j]? =some b→(X++[RR l 0 false])[j]? =some b:=fun j b h=>z0H (go j b h)
 have kr:(X++[RR l 0 false])[X.length]? =some (RR l 0 false):=z0Q
 rw [gl] at kr ⊢
 show VV _ _ _ (X++[RR l 0 false]) _ _
 generalize (X++[RR l 0 false]:Heap)=Y at *
 clear g0 go gl X
 refine z0E ?_
 refine z1W rfl (c20 kr (by omega) hls (fun q=>Nat.le_trans (hsj q) hs)) ?_ ?_
 rotate_left
 ·rintro v H' (⟨v',hv,_⟩ | ⟨v',hv,h⟩)
  ·cases hv
  ·exact h.elim
 rintro v V (⟨v',hv,hold,hm⟩ | ⟨v',hv,h⟩)
 rotate_left
 ·cases hv
 cases hv
 have v0:=hold _ _ (by omega) k0
 have vo:∀ (j:Nat) (b:Blk),H[j]? =some b→V[j]? =some b:=fun j b h=>hold _ _ (by have:=hlj j b h;omega) (ko j b h)
 clear hold k0 ko kr Y
 cases hru:ruleP l with
 | none =>
  rw [hru] at hm hX
  simp only at hm hX
  obtain ⟨⟨a,b,c,d,rfl,hsc⟩,q,g,hq,hql⟩:=hm
  have hqlt:=(List.getElem?_eq_some_iff.1 hq).1
  refine z0E ?_
  refine z1H rfl rfl rfl rfl rfl hsc ?_
  have v0:=z0H (G:=[Blk.cells [a,b,c,d]]) v0
  have hq:=z0H (G:=[Blk.cells [a,b,c,d]]) hq
  have vo:∀ (j:Nat) (b':Blk),H[j]? =some b'→(V++[Blk.cells [a,b,c,d]])[j]? =some b':=fun j b' h=>z0H (vo j b' h)
  generalize (V++[Blk.cells [a,b,c,d]]:Heap)=W at *
  refine walkN ?_
  refine iw_drawX (notAt [H.length]) ?_
  obtain ⟨n,hn,hnl⟩:∃ n:Nat,min (max ((q:Int)-1) 0) ((l.map AV.str).length:Int)=(n:Int)∧n≤l.length:=by
   rw [List.length_map]
   exact ⟨(min (max ((q:Int)-1) 0) (l.length:Int)).toNat,by omega,by omega⟩
  refine vx_q rfl rfl hx_d (z0R (out:=Z4) rfl rfl (z2D ?_))
  refine vx_q rfl rfl hx_d (z3A _ rfl (z2D ?_))
  refine vx_q rfl rfl hx_d (st_nil rfl (z2D ?_))
  refine vx_q rfl rfl hx_d (z1M rfl (z2D ?_))
  refine vx_q rfl rfl (hx_l (show H.length+1∉[H.length] by simp)) (z1T (v:=.int .i64 q) rfl hq rfl (z2D ?_))
  refine vx_q rfl rfl hx_d (st_subi (a:=q) (b:=1) rfl rfl (by omega) (by omega) (z2D ?_))
  refine vx_q rfl rfl hx_d (st_maxi (a:=(q:Int)-1) (b:=0) rfl rfl (z2D ?_))
  refine vx_q rfl rfl hx_d (z3A _ rfl (z2D ?_))
  refine vx_q rfl rfl hx_d (st_nil rfl (z2D ?_))
  refine vx_q rfl rfl hx_d (z1M rfl (z2D ?_))
  refine vx_q rfl rfl (hx_l (show H.length+1∉[H.length] by simp)) (z1T (v:=.list 1 (l.map .str)) rfl hq rfl (z2D ?_))
  refine vx_q rfl rfl hx_d (z4B rfl (sl_strs l) (z2D ?_))
  refine vx_q rfl rfl hx_d (st_mini (a:=max ((q:Int)-1) 0) (b:=((l.map AV.str).length:Int)) rfl rfl (z2D ?_))
  rw [hn]
  refine vx_b rfl rfl (Nat.le_refl _) (z1P (k:=4) (ws:=Z4) rfl rfl v0 rfl rfl rfl (st_finXB (rload_set (by simp)) ?_))
  refine vx_q rfl rfl hx_d (z3A _ rfl (z2D ?_))
  refine vx_q rfl rfl hx_d (z3A _ rfl (z2D ?_))
  refine vx_done ?_
  refine z0E ?_
  exact fin (n:=n) rfl rfl rfl (z0C v0) (fun j b h=>z0A (vo j b h) (by have:=hlj j b h;omega)) hX hnl (fun h=>absurd rfl h)
 | some rg =>
  obtain ⟨r,g⟩:=rg
  rw [hru] at hm hX
  simp only at hm hX
  obtain ⟨rfl,q,hq,hql⟩:=hm
  have hqlt:=(List.getElem?_eq_some_iff.1 hq).1
  have hok:okR r:=ruleF_ok (fun y hy=>Nat.le_trans (hls y hy) (by omega)) (fun q=>Nat.le_trans (hsj q) (by omega)) hru (by simp;omega) (by simp)
  have k15:=c15 r hok
  generalize hve:vrule r=ve at *
  have hsr:∃ x y z w,encR r=.agg [x,y,z,w]∧([x,y,z,w]:List AV).all AV.scalar=true:=by
   obtain ⟨k,pn,prs,ln,ps,b⟩:=r
   refine ⟨_,_,_,_,rfl,?_⟩
   have h1:AV.scalar (encPs pn prs)=true:=by unfold encPs;split<;>rfl
   have h2:AV.scalar (encLs ln ps)=true:=by unfold encLs;split<;>rfl
   simp only [List.all_cons,h1,h2,List.all_nil];rfl
  obtain ⟨a,b,c,d,her,hsc⟩:=hsr
  rw [her] at k15
  rw [her]
  refine z0E ?_
  refine z1H rfl rfl rfl rfl rfl hsc ?_
  have v0:=z0H (G:=[Blk.cells [a,b,c,d]]) v0
  have hq:=z0H (G:=[Blk.cells [a,b,c,d]]) hq
  have vo:∀ (j:Nat) (b':Blk),H[j]? =some b'→(V++[Blk.cells [a,b,c,d]])[j]? =some b':=fun j b' h=>z0H (vo j b' h)
  have hr6:(V++[Blk.cells [a,b,c,d]])[V.length]? =some (.cells [a,b,c,d]):=z0Q
  generalize (V++[Blk.cells [a,b,c,d]]:Heap)=W at *
  refine z0E ?_
  cases g
  rotate_left
  ·simp only [if_true] at hX
   refine z0E ?_
   refine z0R (out:=Z4) rfl rfl ?_
   refine z1P (k:=4) (ws:=Z4) rfl rfl v0 rfl rfl rfl ?_
   refine z0E ?_
   exact fin (n:=0) rfl rfl rfl (z0C v0) (fun j b h=>z0A (vo j b h) (by have:=hlj j b h;omega)) hX (by omega) (fun _=>rfl)
  simp only [Bool.false_eq_true,if_false] at hX
  refine z0E ?_
  refine z0F rfl (k15 W) ?_
  refine z0E ?_
  cases hv0:(ve != 0)
  rotate_left
  ·rw [hv0] at hX
   simp only [if_true] at hX
   refine z0E ?_
   refine z0R (out:=Z4) rfl rfl ?_
   refine z0E ?_
   refine z1P (k:=4) (ws:=Z4) rfl rfl v0 rfl rfl rfl ?_
   refine z0E ?_
   exact fin (n:=0) rfl rfl rfl (z0C v0) (fun j b h=>z0A (vo j b h) (by have:=hlj j b h;omega)) hX (by omega) (fun _=>rfl)
  rw [hv0] at hX
  simp only [Bool.false_eq_true,if_false] at hX
  refine z0E ?_
  refine z1P (k:=4) (ws:=[a,b,c,d]) rfl rfl v0 rfl rfl hsc ?_
  refine z0E ?_
  refine z1G (res6 rfl rfl rfl (z0C v0) rfl) ⟨_,rfl,⟨0,?_,by omega,fun _=>rfl⟩,ext_old fun j b h=>z0A (vo j b h) (by have:=hlj j b h;omega)⟩
  rw [hX,her];rfl
theorem index_first {l:Bt} {c:UInt8} {n:Nat} (h:l[n]? =some c) (hno:∀ k:Nat,k<n→l[k]?≠some c):Lib.indexByte l c=n:=by
 rcases index_cases l c with h1 | ⟨m,hm,hl⟩
 ·exact absurd h (Lib.indexByte_none h1 n)
 ·obtain ⟨a,b⟩:=Lib.indexByte_some hm
  rw [hm]
  rcases Nat.lt_trichotomy m n with hlt | heq | hgt
  ·exact absurd a (hno m hlt)
  ·rw [heq]
  ·exact absurd h (b n hgt)
theorem bad_sig (c:UInt8):badB c = !isSig c:=sig_bad c
end Go.Ab
