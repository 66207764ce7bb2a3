/- Part 23 of the proof. -/
import Derived.Test.YtgpnlpieipoogaaGreatDoorA21
set_option linter.unusedVariables false
set_option linter.unusedSimpArgs false
namespace Go.Ab
variable {P:Program} {H G:Heap} {al:AL} {Q Q':PL} {K:KL} {Qp:AL→AV→Heap→Prop} {os:List IOper} {d:Nat} {x y z:Arg} {v u:AV}
def seqQ:Nat→Nat→Sched
 | _,0=>.done
 | i,n+1=>.quiet i (seqQ (i+1) n)
theorem quiet_vop {o:IOper} {r:Nat} (hq:isQuiet o=true) (h:vopL P o r al H K (fun _ _ _=>False)):∃ v rd,quietValL o al H=some (v,rd)∧K (setL al o.dst v) H:=by
 have ex:vexecL P o r al H K (fun _ _ _=>False)→∃ v rd,quietExecL o al H=some (v,rd)∧K (setL al o.dst v) H:=by
  intro h
  unfold isQuiet at hq
  unfold vexecL at h
  unfold quietExecL
  split at hq
  ·rename_i dd hop
   simp only [hop] at h ⊢
   simp only [isem] at h
   split at h
   ·rename_i v H' hv
    split at hv
    ·rename_i v' hv';injection hv with hv;injection hv with e1 e2;subst e1;subst e2
     simp only [hv'];exact ⟨_,_,rfl,h⟩
    ·cases hv
   ·exact h.elim
  ·rename_i n hop
   simp only [hop] at h ⊢
   simp only [isem] at h
   split at h
   ·rename_i v H' hv
    cases hx:evsL al o.args with
    | nil=>rw [hx] at hv;cases hv
    | cons x l =>
     cases l with
     | cons y l=>rw [hx] at hv;cases hv
     | nil =>
      rw [hx] at hv
      simp only [msem] at hv
      split at hv
      ·rename_i v' hv';injection hv with hv;injection hv with e1 e2;subst e1;subst e2
       simp only [hv'];exact ⟨_,_,rfl,h⟩
      ·cases hv
   ·exact h.elim
  ·cases hq
 unfold vopL at h
 unfold quietValL
 cases hg:o.guard with
 | none=>rw [hg] at h;exact ex h
 | some gw =>
  obtain ⟨g,want⟩:=gw
  rw [hg] at h
  simp only at h ⊢
  split at h
  ·rename_i b hb
   by_cases e:b=want
   ·rw [if_pos e] at h ⊢;exact ex h
   ·rw [if_neg e] at h ⊢;exact ⟨_,_,rfl,h⟩
  ·exact ⟨_,_,rfl,h⟩
  ·exact h.elim
theorem drawq {base:Nat} {ios:List IOper} {B:List (List Nat)} {G:AV→Prop} (hq:ios.all isQuiet=true):∀ (n i:Nat) (S:List Rd) (al:AL) (H:Heap),i+n=ios.length →
  vopsL P (ios.drop i) al H K (fun _ _ _=>False)→vsL P base ios B K G (seqQ i n) S al H
 | 0,i,S,al,H,hn,h=>by
  rw [List.drop_eq_nil_of_le (by omega)] at h
  exact h
 | n+1,i,S,al,H,hn,h=>by
  have hi:i<ios.length:=by omega
  rw [List.drop_eq_getElem_cons hi] at h
  obtain ⟨v,rd,h1,h2⟩:=quiet_vop (List.all_eq_true.1 hq _ (List.getElem_mem hi)) h
  simp only [seqQ,vsL,List.getElem?_eq_getElem hi,h1]
  exact drawq hq n (i+1) _ _ _ (by omega) h2
theorem iw_drawq {ios:List IOper} {B:List (List Nat)} {s:Sched} {ks:List Nat} (hs:s=seqQ 0 ios.length) (hq:ios.all isQuiet=true)
  (h:VV P ios al H (fun a h=>Q .normal (keepL a ks) h) (fun _ _ _=>False)):WI P (.draw 0 ios B s (some ks)) Q al H:=by
 subst hs
 refine ⟨⟨fun _=>False,fun _ _ f=>f.elim,?_⟩⟩
 have:reserve H 0=H:=by simp [reserve]
 rw [this]
 exact drawq hq ios.length 0 [] al H (by omega) h.1
theorem z2S {id off n sz:Nat} (hx:evL al x=.sl id off n sz) (h:VV P os ((d,.int .i64 n)::al) H K Qp):VV P (⟨some d,.i (.d .len),[x],none,none⟩::os) al H K Qp :=
 z2Z (v:=.int .i64 n) (by simp only [evsL,hx,dsem]) h
structure VS (P:Program) (base:Nat) (ios:List IOper) (B:List (List Nat)) (K:KL) (G:AV→Prop) (s:Sched) (al:AL) (H:Heap):Prop where
 h:∀ S:List Rd,(∀ r∈S,rload r.n r.x H=some r.v)→vsL P base ios B K G s S al H
theorem quiet_rd {o:IOper} {v:AV} {n:Option Nat} {u:AV} (h:quietValL o al H=some (v,some (n,u))):rload n u H=some v:=by
 have ex:quietExecL o al H=some (v,some (n,u))→rload n u H=some v:=by
  intro h
  unfold quietExecL at h
  split at h
  ·split at h
   ·injection h with h;injection h with _ h;cases h
   ·cases h
  ·split at h
   ·split at h
    ·rename_i hl
     injection h with h;injection h with h1 h2;injection h2 with h2;injection h2 with h2 h3
     subst h1;subst h2;subst h3;exact hl
    ·cases h
   ·cases h
  ·cases h
 unfold quietValL at h
 split at h
 ·exact ex h
 ·split at h
  ·split at h
   ·exact ex h
   ·injection h with h;injection h with _ h;cases h
  ·injection h with h;injection h with _ h;cases h
  ·cases h
section vs
variable {base:Nat} {ios:List IOper} {B:List (List Nat)} {Gp:AV→Prop} {s:Sched}
theorem vs_q {i:Nat} {o:IOper} (ho:ios[i]? =some o) (hq:isQuiet o=true) (h:VV P [o] al H (fun al' _=>VS P base ios B K Gp s al' H) (fun _ _ _=>False)):VS P base ios B K Gp (.quiet i s) al H:=by
 refine ⟨fun S hS=>?_⟩
 obtain ⟨v,rd,h1,h2⟩:=quiet_vop (K:=fun al' _=>VS P base ios B K Gp s al' H) hq h.1
 simp only [vsL,ho,h1]
 refine h2.1 _ fun r hr=>?_
 cases rd with
 | none=>exact hS r hr
 | some q =>
  obtain ⟨n,u⟩:=q
  rcases List.mem_cons.1 hr with rfl | hr
  ·exact quiet_rd h1
  ·exact hS r hr
theorem vs_b {i:Nat} {o:IOper} (ho:ios[i]? =some o) (hr:o.res=none) (hb:base≤H.length) (h:VV P [o] al H (fun al' H'=>H'=H∧VS P base ios B K Gp s al' H) (fun _ v _=>Gp v)) :
  VS P base ios B K Gp (.branch i s .stop) al H:=by
 refine ⟨fun S hS=>?_⟩
 have hrr:rOf base o H=H.length:=by simp [rOf,hr]
 simp only [vsL,ho,hrr]
 refine ⟨⟨?_,Nat.ble_eq_true_of_le hb,?_⟩,trivial⟩
 ·simp [freeB]
 ·refine iw_cut.vopL_mono h.1 ?_ (fun _ _ _ q=>q)
  rintro al' H' ⟨rfl,q⟩
  refine ⟨?_,q.1 S hS⟩
  unfold obligL
  rw [ho]
  simp only
  split
  ·trivial
  ·exact fun r hr _=>hS r hr
theorem vs_done (h:K al H):VS P base ios B K Gp .done al H:=⟨fun _ _=>h⟩
end vs
theorem z5K {base:Nat} {ios:List IOper} {B:List (List Nat)} {Gp:AV→Prop} {s:Sched} {H':Heap} (h:VS P base ios B K Gp s al H'):VV P [] al H (fun a _=>VS P base ios B K Gp s a H') Qp:=⟨h⟩
theorem z5L {S:AL→Prop} (h:S al):VV P [] al H (fun a h=>h=H∧S a) Qp:=⟨⟨rfl,h⟩⟩
theorem iw_drawS {ios:List IOper} {B:List (List Nat)} {s:Sched} {ks:List Nat} (h:VS P H.length ios B (fun a h=>Q .normal (keepL a ks) h) (fun _=>False) s al H):WI P (.draw 0 ios B s (some ks)) Q al H:=by
 refine ⟨⟨fun _=>False,fun _ _ f=>f.elim,?_⟩⟩
 have:reserve H 0=H:=by simp [reserve]
 rw [this]
 exact h.1 [] (by simp)
theorem vs_end {base:Nat} {ios:List IOper} {B:List (List Nat)} {Gp:AV→Prop} {ks:List Nat} {al':AL} (hk:keepL al ks=al') (h:Q .normal al' H):VS P base ios B (fun a h=>Q .normal (keepL a ks) h) Gp .done al H:=vs_done (by rw [hk];exact h)
end Go.Ab
