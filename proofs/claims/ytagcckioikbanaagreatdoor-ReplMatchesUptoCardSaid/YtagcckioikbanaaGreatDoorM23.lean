/- Part 23 of the proof. -/
import Derived.Test.YtagcckioikbanaaGreatDoorM21
set_option linter.unusedVariables false
set_option linter.unusedSimpArgs false
namespace Go.Ab
variable {P:Program} {H G:z0B} {al:AL} {Q Q':PL} {K:KL} {Qp:AL→AV→z0B→Prop} {os:List IOper} {d:Nat} {x y z:Arg} {v u:AV}
def zXa:Nat→Nat→Sched
 | _,0=>.done
 | i,n+1=>.quiet i (zXa (i+1) n)
theorem z3e {o:IOper} {r:Nat} (hq:z0v o=true) (h:zKe P o r al H K (fun _ _ _=>False)):∃ v rd,z0f o al H=some (v,rd)∧K (z9H al o.dst v) H:=by
 have ex:z3w P o r al H K (fun _ _ _=>False)→∃ v rd,z1p o al H=some (v,rd)∧K (z9H al o.dst v) H:=by
  intro h
  unfold z0v at hq
  unfold z3w at h
  unfold z1p
  split at hq
  ·rename_i dd hop
   simp only [hop] at h ⊢
   simp only [z5a] at h
   split at h
   ·rename_i v H' hv
    split at hv
    ·rename_i v' hv';injection hv with hv;injection hv with e1 e2;subst e1;subst e2
     simp only [hv'];exact ⟨_,_,rfl,h⟩
    ·cases hv
   ·exact h.elim
  ·rename_i n hop
   simp only [hop] at h ⊢
   simp only [z5a] at h
   split at h
   ·rename_i v H' hv
    cases hx:z0u al o.args with
    | nil=>rw [hx] at hv;cases hv
    | cons x l =>
     cases l with
     | cons y l=>rw [hx] at hv;cases hv
     | nil =>
      rw [hx] at hv
      simp only [z6m] at hv
      split at hv
      ·rename_i v' hv';injection hv with hv;injection hv with e1 e2;subst e1;subst e2
       simp only [hv'];exact ⟨_,_,rfl,h⟩
      ·cases hv
   ·exact h.elim
  ·cases hq
 unfold zKe at h
 unfold z0f
 cases hg:o.guard with
 | none=>rw [hg] at h;exact ex h
 | some gw =>
  obtain ⟨g,want⟩:=gw
  rw [hg] at h
  simp only at h ⊢
  split at h
  ·rename_i b hb
   by_cases e:b=want
   ·rw [if_pos e] at h ⊢;exact ex h
   ·rw [if_neg e] at h ⊢;exact ⟨_,_,rfl,h⟩
  ·exact ⟨_,_,rfl,h⟩
  ·exact h.elim
theorem zXH {base:Nat} {ios:List IOper} {B:List (List Nat)} {G:AV→Prop} (hq:ios.all z0v=true):∀ (n i:Nat) (S:List Rd) (al:AL) (H:z0B),i+n=ios.length →
  z6v P (ios.drop i) al H K (fun _ _ _=>False)→vsL P base ios B K G (zXa i n) S al H
 | 0,i,S,al,H,hn,h=>by
  rw [lDR (by omega)] at h
  exact h
 | n+1,i,S,al,H,hn,h=>by
  have hi:i<ios.length:=by omega
  rw [lB3 hi] at h
  obtain ⟨v,rd,h1,h2⟩:=z3e (lAX.1 hq _ (lBT hi)) h
  simp only [zXa,vsL,lAG hi,h1]
  exact zXH hq n (i+1) _ _ _ (by omega) h2
theorem z9a {ios:List IOper} {B:List (List Nat)} {s:Sched} {ks:List Nat} (hs:s=zXa 0 ios.length) (hq:ios.all z0v=true)
  (h:VV P ios al H (fun a h=>Q .normal (z1d a ks) h) (fun _ _ _=>False)):WI P (.draw 0 ios B s (some ks)) Q al H:=by
 subst hs
 refine ⟨⟨fun _=>False,fun _ _ f=>f.elim,?_⟩⟩
 have:z1Q H 0=H:=by simp [z1Q]
 rw [this]
 exact zXH hq ios.length 0 [] al H (by omega) h.1
theorem z6M {id off n sz:Nat} (hx:evL al x=.sl id off n sz) (h:VV P os ((d,.int .i64 n)::al) H K Qp):VV P (⟨some d,.i (.d .len),[x],none,none⟩::os) al H K Qp :=
 z2S (v:=.int .i64 n) (by simp only [z0u,hx,z1W]) h
structure VS (P:Program) (base:Nat) (ios:List IOper) (B:List (List Nat)) (K:KL) (G:AV→Prop) (s:Sched) (al:AL) (H:z0B):Prop where
 h:∀ S:List Rd,(∀ r∈S,z0h r.n r.x H=some r.v)→vsL P base ios B K G s S al H
theorem z7m {o:IOper} {v:AV} {n:Option Nat} {u:AV} (h:z0f o al H=some (v,some (n,u))):z0h n u H=some v:=by
 have ex:z1p o al H=some (v,some (n,u))→z0h n u H=some v:=by
  intro h
  unfold z1p at h
  split at h
  ·split at h
   ·injection h with h;injection h with _ h;cases h
   ·cases h
  ·split at h
   ·split at h
    ·rename_i hl
     injection h with h;injection h with h1 h2;injection h2 with h2;injection h2 with h2 h3
     subst h1;subst h2;subst h3;exact hl
    ·cases h
   ·cases h
  ·cases h
 unfold z0f at h
 split at h
 ·exact ex h
 ·split at h
  ·split at h
   ·exact ex h
   ·injection h with h;injection h with _ h;cases h
  ·injection h with h;injection h with _ h;cases h
  ·cases h
section vs
variable {base:Nat} {ios:List IOper} {B:List (List Nat)} {Gp:AV→Prop} {s:Sched}
theorem zXm {i:Nat} {o:IOper} (ho:ios[i]? =some o) (hq:z0v o=true) (h:VV P [o] al H (fun al' _=>VS P base ios B K Gp s al' H) (fun _ _ _=>False)):VS P base ios B K Gp (.quiet i s) al H:=by
 refine ⟨fun S hS=>?_⟩
 obtain ⟨v,rd,h1,h2⟩:=z3e (K:=fun al' _=>VS P base ios B K Gp s al' H) hq h.1
 simp only [vsL,ho,h1]
 refine h2.1 _ fun r hr=>?_
 cases rd with
 | none=>exact hS r hr
 | some q =>
  obtain ⟨n,u⟩:=q
  rcases lAT.1 hr with rfl | hr
  ·exact z7m h1
  ·exact hS r hr
theorem zXn {i:Nat} {o:IOper} (ho:ios[i]? =some o) (hr:o.res=none) (hb:base≤H.length) (h:VV P [o] al H (fun al' H'=>H'=H∧VS P base ios B K Gp s al' H) (fun _ v _=>Gp v)) :
  VS P base ios B K Gp (.branch i s .stop) al H:=by
 refine ⟨fun S hS=>?_⟩
 have hrr:rOf base o H=H.length:=by simp [rOf,hr]
 simp only [vsL,ho,hrr]
 refine ⟨⟨?_,lCN hb,?_⟩,trivial⟩
 ·simp [z9J]
 ·refine z7y.vopL_mono h.1 ?_ (fun _ _ _ q=>q)
  rintro al' H' ⟨rfl,q⟩
  refine ⟨?_,q.1 S hS⟩
  unfold z5s
  rw [ho]
  simp only
  split
  ·trivial
  ·exact fun r hr _=>hS r hr
theorem zQx (h:K al H):VS P base ios B K Gp .done al H:=⟨fun _ _=>h⟩
end vs
theorem zFy {base:Nat} {ios:List IOper} {B:List (List Nat)} {Gp:AV→Prop} {s:Sched} {H':z0B} (h:VS P base ios B K Gp s al H'):VV P [] al H (fun a _=>VS P base ios B K Gp s a H') Qp:=⟨h⟩
theorem zFz {S:AL→Prop} (h:S al):VV P [] al H (fun a h=>h=H∧S a) Qp:=⟨⟨rfl,h⟩⟩
theorem zHs {ios:List IOper} {B:List (List Nat)} {s:Sched} {ks:List Nat} (h:VS P H.length ios B (fun a h=>Q .normal (z1d a ks) h) (fun _=>False) s al H):WI P (.draw 0 ios B s (some ks)) Q al H:=by
 refine ⟨⟨fun _=>False,fun _ _ f=>f.elim,?_⟩⟩
 have:z1Q H 0=H:=by simp [z1Q]
 rw [this]
 exact h.1 [] (by simp)
theorem zKs {base:Nat} {ios:List IOper} {B:List (List Nat)} {Gp:AV→Prop} {ks:List Nat} {al':AL} (hk:z1d al ks=al') (h:Q .normal al' H):VS P base ios B (fun a h=>Q .normal (z1d a ks) h) Gp .done al H:=zQx (by rw [hk];exact h)
end Go.Ab
