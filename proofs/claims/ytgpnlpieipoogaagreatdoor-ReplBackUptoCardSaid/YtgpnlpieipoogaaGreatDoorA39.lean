/- Part 39 of the proof. -/
import Derived.Test.YtgpnlpieipoogaaGreatDoorA28
import Derived.Test.YtgpnlpieipoogaaGreatDoorA29
import Derived.Test.YtgpnlpieipoogaaGreatDoorA38
set_option linter.unusedVariables false
set_option linter.unusedSimpArgs false
namespace Go.Ab
open Go
set_option maxRecDepth 100000
set_option maxHeartbeats 8000000
structure VX (P:Program) (O:AV→Prop) (base:Nat) (ios:List IOper) (B:List (List Nat)) (K:KL) (G:AV→Prop) (s:Sched) (al:AL) (H:Heap):Prop where
 h:∀ S:List Rd,(∀ r∈S,O r.x∧rload r.n r.x H=some r.v)→vsL P base ios B K G s S al H
section vx
variable {P:Program} {H:Heap} {al:AL} {Q:PL} {K:KL} {O:AV→Prop} {base:Nat} {ios:List IOper} {B:List (List Nat)} {Gp:AV→Prop} {s:Sched}
theorem vx_q {i:Nat} {o:IOper} (ho:ios[i]? =some o) (hq:isQuiet o=true) (hr:∀ v n x,quietValL o al H=some (v,some (n,x))→O x)
  (h:VV P [o] al H (fun al' _=>VX P O base ios B K Gp s al' H) (fun _ _ _=>False)):VX P O base ios B K Gp (.quiet i s) al H:=by
 refine ⟨fun S hS=>?_⟩
 obtain ⟨v,rd,h1,h2⟩:=quiet_vop (K:=fun al' _=>VX P O base ios B K Gp s al' H) hq h.1
 simp only [vsL,ho,h1]
 refine h2.1 _ fun r hr'=>?_
 cases rd with
 | none=>exact hS r hr'
 | some q =>
  obtain ⟨n,u⟩:=q
  rcases List.mem_cons.1 hr' with rfl | hr'
  ·exact ⟨hr _ _ _ h1,quiet_rd h1⟩
  ·exact hS r hr'
theorem hx_d {d:Option Nat} {op:DOp} {as_:List Arg} {r:Option Nat}:∀ v n x,quietValL ⟨d,.i (.d op),as_,none,r⟩ al H=some (v,some (n,x))→O x:=by
 intro v n x h
 simp only [quietValL,quietExecL] at h
 split at h
 ·injection h with h;injection h with _ h;cases h
 ·cases h
theorem hx_l {d:Option Nat} {k:Option Nat} {a:Arg} {r:Option Nat} (hok:O (evL al a)):∀ v n x,quietValL ⟨d,.i (.m (.load k)),[a],none,r⟩ al H=some (v,some (n,x))→O x:=by
 intro v n x h
 simp only [quietValL,quietExecL,evsL] at h
 split at h
 ·injection h with h;injection h with _ h;injection h with h;injection h with _ h;subst h;exact hok
 ·cases h
theorem vx_b {i:Nat} {o:IOper} (ho:ios[i]? =some o) (hr:o.res=none) (hb:base≤H.length)
  (h:VV P [o] al H (fun al' H'=>(∀ n x v,O x→rload n x H=some v→rload n x H'=some v)∧VX P O base ios B K Gp s al' H') (fun _ v _=>Gp v)) :
  VX P O base ios B K Gp (.branch i s .stop) al H:=by
 refine ⟨fun S hS=>?_⟩
 have hrr:rOf base o H=H.length:=by simp [rOf,hr]
 simp only [vsL,ho,hrr]
 refine ⟨⟨?_,Nat.ble_eq_true_of_le hb,?_⟩,trivial⟩
 ·simp [freeB]
 ·refine iw_cut.vopL_mono h.1 ?_ (fun _ _ _ q=>q)
  rintro al' H' ⟨hpres,q⟩
  have hS':∀ r∈S,O r.x∧rload r.n r.x H'=some r.v:=fun r hr=>⟨(hS r hr).1,hpres _ _ _ (hS r hr).1 (hS r hr).2⟩
  refine ⟨?_,q.1 S hS'⟩
  unfold obligL
  rw [ho]
  simp only
  split
  ·trivial
  ·exact fun r hr _=>(hS' r hr).2
theorem vx_done (h:K al H):VX P O base ios B K Gp .done al H:=⟨fun _ _=>h⟩
theorem iw_drawX {ks:List Nat} (O:AV→Prop) (h:VX P O H.length ios B (fun a h=>Q .normal (keepL a ks) h) (fun _=>False) s al H):WI P (.draw 0 ios B s (some ks)) Q al H:=by
 refine ⟨⟨fun _=>False,fun _ _ f=>f.elim,?_⟩⟩
 have:reserve H 0=H:=by simp [reserve]
 rw [this]
 exact h.1 [] (by simp)
theorem z2D {H':Heap} {Qp:AL→AV→Heap→Prop} (h:VX P O base ios B K Gp s al H'):VV P [] al H (fun a _=>VX P O base ios B K Gp s a H') Qp:=⟨h⟩
theorem st_finXB {H':Heap} {Qp:AL→AV→Heap→Prop} (hp:∀ n x v,O x→rload n x H'=some v→rload n x H=some v) (h:VX P O base ios B K Gp s al H) :
  VV P [] al H (fun a h=>(∀ n x v,O x→rload n x H'=some v→rload n x h=some v)∧VX P O base ios B K Gp s a h) Qp:=⟨⟨hp,h⟩⟩
end vx
def notAt (l:List Nat):AV→Prop
 | .ptr j _=>j∉l
 | _=>True
theorem rload_set {H:Heap} {l:List Nat} {id:Nat} {b:Blk} (hid:id∈l):∀ n x v,notAt l x→rload n x H=some v→rload n x (H.set id b)=some v:=by
 intro n x v ho hl
 cases x with
 | ptr j off =>
  have hj:id≠j:=fun e=>ho (e ▸ hid)
  simp only [rload,List.getElem?_set,if_neg hj] at hl ⊢
  exact hl
 | _=>exact hl
theorem ACall.forgetE {P:Program} {H:Heap} {f:FuncId} {args:List AV} {S:AV→Prop} (hS:∀ v,S v→Plain v) (h:ACall P f args H (fun r H'=>∃ v,r=.ret v∧S v∧∃ G,H'=H++G)) :
  ACall P f args H (fun r H'=>∃ v,r=.ret v∧S v∧H'=H):=by
 intro φ σ cargs w hr hc
 refine (h φ σ cargs w hr hc).mono ?_
 rintro e w' ⟨φ',σ',r,H',s,kp,rr,v,rfl,hv,G,rfl⟩
 obtain ⟨c,rfl,hvc⟩:=rr
 obtain ⟨n,hn⟩:=hS v hv
 exact ⟨_,σ',.ret v,H,step_forget hr s,.refl _,⟨c,rfl,plainV_rel hn hvc⟩,v,rfl,hv,rfl⟩
theorem plain_enc:∀ e:Ex,Plain (enc e)
 | .mk op s nl l=>by
  have ih:∀ x∈l,Plain (enc x):=fun x hx=>plain_enc x
  rw [z0U]
  refine Plain.agg fun x hx=>?_
  simp only [List.mem_cons,List.not_mem_nil,or_false] at hx
  rcases hx with rfl | rfl | rfl
  ·exact Plain.int _ _
  ·exact Plain.str _
  ·unfold lst
   split
   ·exact Plain.nilslice
   ·exact Plain.list _ fun y hy=>by obtain ⟨e,he,rfl⟩:=List.mem_map.1 hy;exact ih e he
termination_by e=>e.w
decreasing_by
 have:=ws_mem hx
 simp only [Ex.w];omega
theorem d237_some {a b c:Nat} {x y z x' y':AV} {q:Nat} {H:Heap} (ha:H[a]? =some (.cells [x,y,z])) (hb:H[b]? =some (.cells [x'])) (hc:H[c]? =some (.cells [y'])) (hab:a≠b) (hac:a≠c) (hbc:b≠c) :
  DCalls QQ 173 [.ptr a 0,.ptr b 0,.ptr c 0] H (some (wrongA q)) (fun r H'=>r=true∧H'=(((H++[Blk.cells [.int .i64 q]]).set a (Blk.cells [.int .i64 0,.str [],.nilslice])).set b (Blk.cells [.int .i64 q])).set c (Blk.cells [.int .i64 2])):=by
 have hla:=(List.getElem?_eq_some_iff.1 ha).1
 have hlb:=(List.getElem?_eq_some_iff.1 hb).1
 have hlc:=(List.getElem?_eq_some_iff.1 hc).1
 refine dcall_recover (t:=6) (ios:=ios237) z0W Go.Proofs.Tryz.func173 body237 ops237_eq ⟨#[],by kernel_rfl⟩ (by kernel_rfl) (by kernel_rfl) cl237 (by kernel_rfl) (show 3≤14 by decide) (by decide) ?_
 refine vopsL_sound (n:=14) (K:=fun al H'=>H'=H++[.cells [.int .i64 q]]∧look al 0=.ptr a 0∧look al 1=.ptr b 0∧look al 2=.ptr c 0∧look al 3=.ptr H.length 0∧look al 4=.bool true) (Qp:=fun _ _ _=>False) ?_ (fun _ _ _ h=>h) ios237 ((6,wrongA q)::number 0 [.ptr a 0,.ptr b 0,.ptr c 0]) H (by kernel_rfl) ?_
 ·rintro al H' ⟨rfl,k0,k1,k2,k3,k4⟩
  refine (iwp_sound z0W mixed c237_R _ _ _ cc237_R (fun x al H'=>(x=.normal∨x=.ret)∧H'=(((H++[Blk.cells [.int .i64 q]]).set a (Blk.cells [.int .i64 0,.str [],.nilslice])).set b (Blk.cells [.int .i64 q])).set c (Blk.cells [.int .i64 2])) al _ (WI.h ?_)).mono ?_
  rotate_left
  ·rintro x env H' ⟨m,al',rfl,hm,q1,q2⟩
   exact ⟨q1,rfl,q2⟩
  refine z2V (z1N ?_)
  refine z3A (.bool true) k4 ?_
  refine z3T (al':=[(0,.ptr a 0),(1,.ptr b 0),(2,.ptr c 0),(3,.ptr H.length 0),(10,.bool true)]) ?_ (nx_n ?_)
  ·rw [←k0,←k1,←k2,←k3];rfl
  refine z5Q rfl ?_
  refine iw_drawX (notAt [a,b,c]) ?_
  have hl:(H++[Blk.cells [.int .i64 q]])[H.length]? =some (.cells [.int .i64 q]):=z0Q
  refine vx_q rfl rfl hx_d (z0R rfl rfl (z2D ?_))
  refine vx_q rfl rfl hx_d (z1M rfl (z2D ?_))
  refine vx_q rfl rfl (hx_l (show H.length+0∉[a,b,c] by simp;omega)) (z1T rfl hl rfl (z2D ?_))
  refine vx_b rfl rfl (Nat.le_refl _) (z0P rfl rfl (z0H ha) rfl (st_finXB (rload_set (by simp)) ?_))
  refine vx_b rfl rfl (by simp) (z0X (.int .i64 q) rfl rfl (z0A (z0H hb) (fun e=>hab e.symm)) rfl rfl rfl (st_finXB (rload_set (by simp)) ?_))
  refine vx_b rfl rfl (by simp) (z0X (.int .i64 2) rfl rfl (z0A (z0A (z0H hc) (fun e=>hac e.symm)) (fun e=>hbc e.symm)) rfl rfl rfl (st_finXB (rload_set (by simp)) ?_))
  exact vx_done ⟨.inl rfl,rfl⟩
 ·have:VV QQ ios237 [(6,wrongA q),(0,.ptr a 0),(1,.ptr b 0),(2,.ptr c 0)] (H++[]) (fun al H'=>H'=H++[.cells [.int .i64 q]]∧look al 0=.ptr a 0∧look al 1=.ptr b 0∧look al 2=.ptr c 0∧look al 3=.ptr H.length 0∧look al 4=.bool true) (fun _ _ _=>False):=by
   refine z2Z (v:=.tuple [.agg [.int .i64 q],.bool true]) rfl ?_
   refine z3A (.tuple [.agg [.int .i64 q],.bool true]) rfl ?_
   refine z2Z (v:=.agg [.int .i64 q]) rfl ?_
   refine z2Z (v:=.bool true) rfl ?_
   refine z1Z (n:=0) rfl rfl ?_
   refine z1X (n:=0) (.agg [.int .i64 q]) rfl rfl rfl rfl rfl rfl ?_
   refine z3A (.bool true) rfl ?_
   exact ⟨⟨rfl,rfl,rfl,rfl,rfl,rfl⟩⟩
  rw [List.append_nil] at this
  exact this.1
abbrev Z0:Ex:=.mk 0 [] true []
theorem enc_Z0:enc Z0=.agg [.int .i64 0,.str [],.nilslice]:=enc_lf 0 []
def exP (s:Bt):Ex × Int :=
 if decide ((s.length:Int)>6000) then (Z0,3) else match peA .only s 0 with
 | .ok (e,q)=>match tkn s q with
  | .ok (t,_)=>if t==[] then if vexpr e != 0 then (Z0,vexpr e) else (e,0) else (Z0,2)
  | _=>(Z0,2)
 | _=>(Z0,2)
def ExP (s:Bt) (v:AV):Prop:=∃ pl:Int,v=.tuple [enc (exP s).1,.int .i64 pl,.int .i64 (exP s).2]
theorem ExP.plain {s:Bt} {v:AV} (h:ExP s v):Plain v:=by
 obtain ⟨pl,rfl⟩:=h
 refine Plain.tuple fun x hx=>?_
 simp only [List.mem_cons,List.not_mem_nil,or_false] at hx
 rcases hx with rfl | rfl | rfl
 ·exact plain_enc _
 ·exact Plain.int _ _
 ·exact Plain.int _ _
theorem ext_old {H H':Heap} (h:∀ (j:Nat) (b:Blk),H[j]? =some b→H'[j]? =some b):∃ G,H'=H++G:=by
 refine ⟨H'.drop H.length,List.ext_getElem? fun j=>?_⟩
 rcases Nat.lt_or_ge j H.length with hj | hj
 ·obtain ⟨b,hb⟩:=z1E hj
  rw [List.getElem?_append_left hj,hb,h j b hb]
 ·rw [List.getElem?_append_right hj,List.getElem?_drop];congr 1;omega
def R211 (H:Heap) (s:Bt) (x:AX) (al:AL) (H':Heap):Prop:=(∀ (j:Nat) (b:Blk),H[j]? =some b→H'[j]? =some b)∧look al 2=.ptr H.length 0∧look al 3=.ptr (H.length+1) 0∧look al 4=.ptr (H.length+2) 0∧match x with
 | .ret=>∃ v,resultL rs211 al H'=some v∧ExP s v
 | .panic v=>(∃ q:Nat,v=wrongA q)∧exP s=(Z0,2)∧(∃ x y z,H'[H.length]? =some (.cells [x,y,z]))∧(∃ x,H'[H.length+1]? =some (.cells [x]))∧∃ x,H'[H.length+2]? =some (.cells [x])
 | _=>False
theorem res211 {al:AL} {H':Heap} {n:Nat} {a b c x y:AV} (h2:look al 2=.ptr n 0) (h3:look al 3=.ptr (n+1) 0) (h4:look al 4=.ptr (n+2) 0) (k2:H'[n]? =some (.cells [a,b,c])) (k3:H'[n+1]? =some (.cells [x])) (k4:H'[n+2]? =some (.cells [y])) :
  resultL rs211 al H'=some (.tuple [.agg [a,b,c],x,y]):=by
 simp only [resultL,rs211,resVL,rload,h2,h3,h4,k2,k3,k4];rfl
theorem c211R (s:Bt) (hs:s.length≤6000) (H:Heap):WI PP ic211_R (R211 H s)
  [(11,.clo (.func 173) [] [.ptr H.length 0,.ptr (H.length+1) 0,.ptr (H.length+2) 0]),(0,.str s),(2,.ptr H.length 0),(3,.ptr (H.length+1) 0),(4,.ptr (H.length+2) 0),(9,.bool false)]
  (H++[B0,.cells [.int .i64 0],.cells [.int .i64 0]]):=by
 have hd:decide ((s.length:Int)>6000)=false:=by simp;omega
 have hne0:peA .only s 0≠.oof:=pe_fuel _ _ _ _ (by decide) rfl (by omega) (by simp only [Md.rk];omega)
 have hX:exP s=match peA .only s 0 with
  | .ok (e,q)=>match tkn s q with
   | .ok (t,_)=>if t==[] then if vexpr e != 0 then (Z0,vexpr e) else (e,0) else (Z0,2)
   | _=>(Z0,2)
  | _=>(Z0,2):=by unfold exP;rw [hd];rfl
 unfold ic211_R
 refine z0E ?_
 refine z0R rfl rfl ?_
 refine z0E ?_
 have m0:Mod (H++[B0,.cells [.int .i64 0],.cells [.int .i64 0],RB s 0]) (H.length+3) (RB s 0) (H++[B0,.cells [.int .i64 0],.cells [.int .i64 0],RB s 0]):=.refl (by rw [List.getElem?_append_right (by omega)];simp)
 have g0:(H++[B0,.cells [.int .i64 0],.cells [.int .i64 0],RB s 0]:Heap)[H.length]? =some B0:=by rw [List.getElem?_append_right (by omega)];simp
 have g1:(H++[B0,.cells [.int .i64 0],.cells [.int .i64 0],RB s 0]:Heap)[H.length+1]? =some (.cells [.int .i64 0]):=by rw [List.getElem?_append_right (by omega)];simp
 have g2:(H++[B0,.cells [.int .i64 0],.cells [.int .i64 0],RB s 0]:Heap)[H.length+2]? =some (.cells [.int .i64 0]):=by rw [List.getElem?_append_right (by omega)];simp
 have ho:∀ (j:Nat) (b:Blk),H[j]? =some b→(H++[B0,.cells [.int .i64 0],.cells [.int .i64 0],RB s 0])[j]? =some b:=fun j b h=>z0H h
 have hlj:∀ (j:Nat) (b:Blk),H[j]? =some b→j<H.length:=fun j b h=>(List.getElem?_eq_some_iff.1 h).1
 refine z5D (r:=peA .only s 0) (s:=s) (rid:=H.length+3) (args:=[.ptr (H.length+3) 0]) (by rfl) ((wall _ _ (Nat.le_refl _)).only m0.get (by omega) hs hne0) ?_ ?_
 rotate_left
 ·intro q H' he hm
  rw [he] at hX
  exact ⟨fun j b h=>hm.old _ _ (by have:=hlj j b h;omega) (ho j b h),rfl,rfl,rfl,⟨q,rfl⟩,hX,⟨_,_,_,hm.old _ _ (by omega) g0⟩,⟨_,hm.old _ _ (by omega) g1⟩,⟨_,hm.old _ _ (by omega) g2⟩⟩
 intro op t nl l q H1 he hm
 obtain ⟨a1,a2,a3,a4⟩:=pe_ok _ _ _ _ _ rfl he (Nat.zero_le _)
 simp only [Md.wt] at a1 a2 a3
 rw [he] at hX
 simp only at hX
 have ho1:∀ (j:Nat) (b:Blk),H[j]? =some b→H1[j]? =some b:=fun j b h=>hm.old _ _ (by have:=hlj j b h;omega) (ho j b h)
 have k0:=hm.old _ _ (by omega) g0
 have k1:=hm.old _ _ (by omega) g1
 have k2:=hm.old _ _ (by omega) g2
 have hg1:=hm.get
 clear hm g0 g1 g2 ho m0
 refine z0P rfl rfl k0 z1C ?_
 have ho2:∀ (j:Nat) (b:Blk),H[j]? =some b→(H1.set H.length (.cells [.int .i64 op,.str t,lst nl l]))[j]? =some b:=fun j b h=>z0A (ho1 j b h) (by have:=hlj j b h;omega)
 have f0:=z0C (y:=Blk.cells [.int .i64 op,.str t,lst nl l]) k0
 have f1:=z0A (y:=Blk.cells [.int .i64 op,.str t,lst nl l]) (b:=H.length) k1 (by omega)
 have f2:=z0A (y:=Blk.cells [.int .i64 op,.str t,lst nl l]) (b:=H.length) k2 (by omega)
 have fg:=z0A (y:=Blk.cells [.int .i64 op,.str t,lst nl l]) (b:=H.length) hg1 (by omega)
 generalize H1.set H.length (.cells [.int .i64 op,.str t,lst nl l])=H2 at *
 clear ho1 k0 k1 k2 hg1
 refine z0E ?_
 refine st_tk (by rfl) fg a2 hs ?_ ?_
 rotate_left
 ·intro H' ht hm
  rw [ht] at hX
  exact ⟨fun j b h=>hm.old _ _ (by have:=hlj j b h;omega) (ho2 j b h),rfl,rfl,rfl,⟨_,rfl⟩,hX,⟨_,_,_,hm.old _ _ (by omega) f0⟩,⟨_,hm.old _ _ (by omega) f1⟩,⟨_,hm.old _ _ (by omega) f2⟩⟩
 intro u H3 ht htl hg3 hm
 rw [ht] at hX
 simp only at hX
 have ho3:∀ (j:Nat) (b:Blk),H[j]? =some b→H3[j]? =some b:=fun j b h=>hm.old _ _ (by have:=hlj j b h;omega) (ho2 j b h)
 have g0:=hm.old _ _ (by omega) f0
 have g1:=hm.old _ _ (by omega) f1
 have g2:=hm.old _ _ (by omega) f2
 clear hm ho2 f0 f1 f2 fg ht
 generalize skp s q=q2 at *
 refine z0E ?_
 cases b1:(u==[])
 ·rw [b1] at hX
  simp only [Bool.false_eq_true,if_false] at hX
  refine z0E ?_
  refine z0R rfl rfl ?_
  refine z0E ?_
  refine z4G rfl ?_
  exact ⟨ho3,rfl,rfl,rfl,⟨_,rfl⟩,hX,⟨_,_,_,g0⟩,⟨_,g1⟩,⟨_,g2⟩⟩
 rw [b1] at hX
 simp only [if_true] at hX
 have k39:=c39 (.mk op t nl l) (by unfold okE;omega) H3
 rw [z0U] at k39
 refine z0E ?_
 refine z0F rfl k39 ?_
 generalize vexpr (.mk op t nl l)=ve at *
 refine z0E ?_
 cases b2:(ve==0)
 ·have b2':(ve != 0)=true:=by simp only [bne,b2];rfl
  rw [b2'] at hX
  simp only [if_true] at hX
  refine z0E ?_
  refine z0R rfl rfl ?_
  refine z0E ?_
  refine z0P rfl rfl g0 rfl ?_
  have f0:=z0C (y:=Blk.cells [.int .i64 0,.str [],.nilslice]) g0
  have f1:=z0A (y:=Blk.cells [.int .i64 0,.str [],.nilslice]) (b:=H.length) g1 (by omega)
  have f2:=z0A (y:=Blk.cells [.int .i64 0,.str [],.nilslice]) (b:=H.length) g2 (by omega)
  refine z0X (.int .i64 0) rfl rfl f1 rfl rfl rfl ?_
  have e0:=z0A (y:=Blk.cells [.int .i64 0]) (b:=H.length+1) f0 (by omega)
  have e1:=z0C (y:=Blk.cells [.int .i64 0]) f1
  have e2:=z0A (y:=Blk.cells [.int .i64 0]) (b:=H.length+1) f2 (by omega)
  refine z0X (.int .i64 ve) rfl rfl e2 rfl rfl rfl ?_
  have d0:=z0A (y:=Blk.cells [.int .i64 ve]) (b:=H.length+2) e0 (by omega)
  have d1:=z0A (y:=Blk.cells [.int .i64 ve]) (b:=H.length+2) e1 (by omega)
  have d2:=z0C (y:=Blk.cells [.int .i64 ve]) e2
  refine z0E ?_
  refine ⟨fun j b h=>?_,rfl,rfl,rfl,_,res211 rfl rfl rfl d0 d1 d2,0,?_⟩
  ·have:=hlj j b h
   exact z0A (z0A (z0A (ho3 j b h) (by omega)) (by omega)) (by omega)
  ·rw [hX,enc_Z0]
 ·have b2':(ve != 0)=false:=by simp only [bne,b2];rfl
  rw [b2'] at hX
  simp only [Bool.false_eq_true,if_false] at hX
  refine z0E ?_
  refine z0P rfl rfl g0 z1C ?_
  have f0:=z0C (y:=Blk.cells [.int .i64 op,.str t,lst nl l]) g0
  have f1:=z0A (y:=Blk.cells [.int .i64 op,.str t,lst nl l]) (b:=H.length) g1 (by omega)
  have f2:=z0A (y:=Blk.cells [.int .i64 op,.str t,lst nl l]) (b:=H.length) g2 (by omega)
  refine z0X (.int .i64 0) rfl rfl f1 rfl rfl rfl ?_
  have e0:=z0A (y:=Blk.cells [.int .i64 0]) (b:=H.length+1) f0 (by omega)
  have e1:=z0C (y:=Blk.cells [.int .i64 0]) f1
  have e2:=z0A (y:=Blk.cells [.int .i64 0]) (b:=H.length+1) f2 (by omega)
  refine z0X (.int .i64 0) rfl rfl e2 rfl rfl rfl ?_
  have d0:=z0A (y:=Blk.cells [.int .i64 0]) (b:=H.length+2) e0 (by omega)
  have d1:=z0A (y:=Blk.cells [.int .i64 0]) (b:=H.length+2) e1 (by omega)
  have d2:=z0C (y:=Blk.cells [.int .i64 0]) e2
  refine z0E ?_
  refine ⟨fun j b h=>?_,rfl,rfl,rfl,_,res211 rfl rfl rfl d0 d1 d2,0,?_⟩
  ·have:=hlj j b h
   exact z0A (z0A (z0A (ho3 j b h) (by omega)) (by omega)) (by omega)
  ·rw [hX,z0U]
theorem c211 (s:Bt) (H:Heap):ACall PP 150 [.str s] H (fun r H'=>∃ v,r=.ret v∧ExP s v∧H'=H):=by
 refine ACall.forgetE (fun _ h=>h.plain) ?_
 refine acall_defer (t:=11) (cs:=[.tmp 2,.tmp 3,.tmp 4]) (caps:=[.tmp 2,.tmp 3,.tmp 4]) (p:=#[]) (rs:=rs211) z0W Go.Proofs.Tryz.func150 body211 (by kernel_rfl) (by kernel_rfl) (by kernel_rfl) (by kernel_rfl) (by kernel_rfl) (by kernel_rfl)
  rfl (by unfold hasBody;rw [Go.Proofs.Tryz.func173];rfl) crv211 (show 1≤33 by decide) ?_
 refine (iwp_sound z0W mixed c211_0 _ _ _ cc211_0 (fun x al H'=>x=.normal∧al=[(0,.str s),(2,.ptr H.length 0),(3,.ptr (H.length+1) 0),(4,.ptr (H.length+2) 0)]∧H'=H++[B0,.cells [.int .i64 0],.cells [.int .i64 0]]) (number 0 [.str s]) H (WI.h ?_)).mono ?_
 ·have:WI PP ic211_0 (fun x al H'=>x=.normal∧al=[(0,.str s),(2,.ptr H.length 0),(3,.ptr (H.length+1) 0),(4,.ptr (H.length+2) 0)]∧H'=H++[B0,.cells [.int .i64 0],.cells [.int .i64 0]]) (number 0 [.str s]) (H++[]):=by
   unfold ic211_0
   refine z1N ?_
   refine z1Z (n:=0) rfl rfl ?_
   refine z1Z (n:=1) rfl rfl ?_
   refine z1Z (n:=2) rfl rfl ?_
   exact ⟨⟨rfl,rfl,rfl⟩⟩
  rw [List.append_nil] at this
  exact this
 rintro x env H' ⟨m,al,rfl,hm,rfl,rfl,rfl⟩
 cases hm rfl
 by_cases hs:s.length≤6000
 ·refine (iwp_sound z0W mixed c211_A _ _ _ cc211_A (fun x al H'=>x=.normal∧al=[(0,.str s),(2,.ptr H.length 0),(3,.ptr (H.length+1) 0),(4,.ptr (H.length+2) 0),(9,.bool false)]∧H'=H++[B0,.cells [.int .i64 0],.cells [.int .i64 0]]) _ _ (WI.h ?_)).mono ?_
  ·refine z2V (z1N ?_)
   refine z3A (.str s) rfl ?_
   refine z2Z (v:=.int .i64 s.length) rfl ?_
   refine z2Z (v:=.bool (decide ((s.length:Int)>6000))) rfl ?_
   refine z3T (al':=[(0,.str s),(2,.ptr H.length 0),(3,.ptr (H.length+1) 0),(4,.ptr (H.length+2) 0),(9,.bool false)]) ?_ (nx_n ?_)
   ·have:decide ((s.length:Int)>6000)=false:=by simp;omega
    rw [this];rfl
   ·exact iw_no rfl (z3V ⟨rfl,rfl,rfl⟩)
  rintro x env H' ⟨m,al,rfl,hm,rfl,rfl,rfl⟩
  cases hm rfl
  refine ⟨show 11<33 by decide,?_⟩
  refine (iwp_sound z0W mixed c211_R _ _ _ cc211_R (R211 H s)
   [(11,.clo (.func 173) [] [.ptr H.length 0,.ptr (H.length+1) 0,.ptr (H.length+2) 0]),(0,.str s),(2,.ptr H.length 0),(3,.ptr (H.length+1) 0),(4,.ptr (H.length+2) 0),(9,.bool false)] _ (c211R s hs H).1).mono ?_
  rintro x env H' ⟨m,al,rfl,hm,ho,k2,k3,k4,hx⟩
  cases x with
  | ret =>
   obtain ⟨v,hr,hv⟩:=hx
   have:=d237_none (a:=.ptr H.length 0) (b:=.ptr (H.length+1) 0) (c:=.ptr (H.length+2) 0) (H:=H')
   intro φ σ cargs w hrel hc u hu
   refine (this φ σ cargs w hrel hc u hu).mono ?_
   rintro e u' w' ⟨φ',σ',H'',r,he,s',kp,hu',G,rfl⟩
   exact ⟨φ',σ',_,r,he,s',kp,hu',v,resultA_app hr,v,rfl,hv,ext_old fun j b h=>z0H (ho j b h)⟩
  | panic v =>
   obtain ⟨⟨q,rfl⟩,hX,⟨x,y,z,ha⟩,⟨x',hb⟩,⟨y',hc⟩⟩:=hx
   have:=d237_some (q:=q) ha hb hc (by omega) (by omega) (by omega)
   intro φ σ cargs w hrel hc' u hu
   refine (this φ σ cargs w hrel hc' u hu).mono ?_
   rintro e u' w' ⟨φ',σ',H'',r,he,s',kp,hu',rfl,rfl⟩
   have hlj:∀ (j:Nat) (b:Blk),H[j]? =some b→j<H.length:=fun j b h=>(List.getElem?_eq_some_iff.1 h).1
   have d0:=z0A (y:=Blk.cells [.int .i64 2]) (b:=H.length+2) (z0A (y:=Blk.cells [.int .i64 q]) (b:=H.length+1) (z0C (y:=Blk.cells [.int .i64 0,.str [],.nilslice]) (z0H (G:=[Blk.cells [.int .i64 q]]) ha)) (by omega)) (by omega)
   have d1:=z0A (y:=Blk.cells [.int .i64 2]) (b:=H.length+2) (z0C (y:=Blk.cells [.int .i64 q]) (z0A (y:=Blk.cells [.int .i64 0,.str [],.nilslice]) (b:=H.length) (z0H (G:=[Blk.cells [.int .i64 q]]) hb) (by omega))) (by omega)
   have d2:=z0C (y:=Blk.cells [.int .i64 2]) (z0A (y:=Blk.cells [.int .i64 q]) (b:=H.length+1) (z0A (y:=Blk.cells [.int .i64 0,.str [],.nilslice]) (b:=H.length) (z0H (G:=[Blk.cells [.int .i64 q]]) hc) (by omega)) (by omega))
   have hr:=resultA_app (n:=m) (G:=[]) (res211 (al:=al) k2 k3 k4 d0 d1 d2)
   rw [List.append_nil] at hr
   refine ⟨φ',σ',_,true,he,s',kp,hu',?_⟩
   simp only [if_true]
   refine ⟨_,hr,_,rfl,⟨q,?_⟩,ext_old fun j b h=>?_⟩
   ·rw [hX,enc_Z0]
   ·have:=hlj j b h
    exact z0A (z0A (z0A (z0H (ho j b h)) (by omega)) (by omega)) (by omega)
  | _=>exact hx.elim
 ·have hd:decide ((s.length:Int)>6000)=true:=by simp;omega
  have hX:exP s=(Z0,3):=by unfold exP;rw [hd];rfl
  refine (iwp_sound z0W mixed c211_A _ _ _ cc211_A (fun x al H'=>x=.ret∧(∃ v,resultL rs211 al H'=some v∧ExP s v)∧∃ G,H'=H++G) _ _ (WI.h ?_)).mono ?_
  ·have g0:(H++[B0,.cells [.int .i64 0],.cells [.int .i64 0]]:Heap)[H.length]? =some B0:=by rw [List.getElem?_append_right (by omega)];simp
   have g1:(H++[B0,.cells [.int .i64 0],.cells [.int .i64 0]]:Heap)[H.length+1]? =some (.cells [.int .i64 0]):=by rw [List.getElem?_append_right (by omega)];simp
   have g2:(H++[B0,.cells [.int .i64 0],.cells [.int .i64 0]]:Heap)[H.length+2]? =some (.cells [.int .i64 0]):=by rw [List.getElem?_append_right (by omega)];simp
   have ho3:∀ (j:Nat) (b:Blk),H[j]? =some b→(H++[B0,.cells [.int .i64 0],.cells [.int .i64 0]])[j]? =some b:=fun j b h=>z0H h
   have hlj:∀ (j:Nat) (b:Blk),H[j]? =some b→j<H.length:=fun j b h=>(List.getElem?_eq_some_iff.1 h).1
   generalize (H++[B0,.cells [.int .i64 0],.cells [.int .i64 0]]:Heap)=H3 at *
   refine z2V (z1N ?_)
   refine z3A (.str s) rfl ?_
   refine z2Z (v:=.int .i64 s.length) rfl ?_
   refine z2Z (v:=.bool (decide ((s.length:Int)>6000))) rfl ?_
   refine z3T (al':=[(0,.str s),(2,.ptr H.length 0),(3,.ptr (H.length+1) 0),(4,.ptr (H.length+2) 0),(9,.bool true)]) ?_ (nx_n ?_)
   ·rw [hd];rfl
   refine z5Q rfl (z2V (z1N ?_))
   refine z0R rfl rfl ?_
   refine z0P rfl rfl g0 rfl ?_
   have f0:=z0C (y:=Blk.cells [.int .i64 0,.str [],.nilslice]) g0
   have f1:=z0A (y:=Blk.cells [.int .i64 0,.str [],.nilslice]) (b:=H.length) g1 (by omega)
   have f2:=z0A (y:=Blk.cells [.int .i64 0,.str [],.nilslice]) (b:=H.length) g2 (by omega)
   refine z0X (.int .i64 0) rfl rfl f1 rfl rfl rfl ?_
   have e0:=z0A (y:=Blk.cells [.int .i64 0]) (b:=H.length+1) f0 (by omega)
   have e1:=z0C (y:=Blk.cells [.int .i64 0]) f1
   have e2:=z0A (y:=Blk.cells [.int .i64 0]) (b:=H.length+1) f2 (by omega)
   refine z0X (.int .i64 3) rfl rfl e2 rfl rfl rfl ?_
   have d0:=z0A (y:=Blk.cells [.int .i64 3]) (b:=H.length+2) e0 (by omega)
   have d1:=z0A (y:=Blk.cells [.int .i64 3]) (b:=H.length+2) e1 (by omega)
   have d2:=z0C (y:=Blk.cells [.int .i64 3]) e2
   refine z0E ?_
   refine ⟨rfl,⟨_,res211 rfl rfl rfl d0 d1 d2,0,?_⟩,ext_old fun j b h=>?_⟩
   ·rw [hX,enc_Z0]
   ·have:=hlj j b h
    exact z0A (z0A (z0A (ho3 j b h) (by omega)) (by omega)) (by omega)
  rintro x env H' ⟨m,al,rfl,hm,rfl,⟨v,hr,hv⟩,G,rfl⟩
  have:=resultA_app (n:=m) (G:=[]) hr
  rw [List.append_nil] at this
  exact ⟨v,this,v,rfl,hv,G,rfl⟩
end Go.Ab
