/- Part 23 of the proof. -/
import Derived.Test.YtagcckioikbanaaGreatDoorA21
set_option linter.unusedVariables false
set_option linter.unusedSimpArgs false
namespace Go.Ab
variable {P:Program} {H G:z0B} {al:AL} {Q Q':PL} {K:KL} {Qp:AL→AV→z0B→Prop} {os:List IOper} {d:Nat} {x y z:Arg} {v u:AV}
def zYq:Nat→Nat→Sched
 | _,0=>.done
 | i,n+1=>.quiet i (zYq (i+1) n)
theorem z4J {o:IOper} {r:Nat} (hq:z1H o=true) (h:zKW P o r al H K (fun _ _ _=>False)):∃ v rd,z0q o al H=some (v,rd)∧K (z9y al o.dst v) H:=by
 have ex:z4F P o r al H K (fun _ _ _=>False)→∃ v rd,z1x o al H=some (v,rd)∧K (z9y al o.dst v) H:=by
  intro h
  unfold z1H at hq
  unfold z4F at h
  unfold z1x
  split at hq
  ·rename_i dd hop
   simp only [hop] at h ⊢
   simp only [z5p] at h
   split at h
   ·rename_i v H' hv
    split at hv
    ·rename_i v' hv';injection hv with hv;injection hv with e1 e2;subst e1;subst e2
     simp only [hv'];exact ⟨_,_,rfl,h⟩
    ·cases hv
   ·exact h.elim
  ·rename_i n hop
   simp only [hop] at h ⊢
   simp only [z5p] at h
   split at h
   ·rename_i v H' hv
    cases hx:z1G al o.args with
    | nil=>rw [hx] at hv;cases hv
    | cons x l =>
     cases l with
     | cons y l=>rw [hx] at hv;cases hv
     | nil =>
      rw [hx] at hv
      simp only [z7J] at hv
      split at hv
      ·rename_i v' hv';injection hv with hv;injection hv with e1 e2;subst e1;subst e2
       simp only [hv'];exact ⟨_,_,rfl,h⟩
      ·cases hv
   ·exact h.elim
  ·cases hq
 unfold zKW at h
 unfold z0q
 cases hg:o.guard with
 | none=>rw [hg] at h;exact ex h
 | some gw =>
  obtain ⟨g,want⟩:=gw
  rw [hg] at h
  simp only at h ⊢
  split at h
  ·rename_i b hb
   by_cases e:b=want
   ·rw [if_pos e] at h ⊢;exact ex h
   ·rw [if_neg e] at h ⊢;exact ⟨_,_,rfl,h⟩
  ·exact ⟨_,_,rfl,h⟩
  ·exact h.elim
theorem zYS {base:Nat} {ios:List IOper} {B:List (List Nat)} {G:AV→Prop} (hq:ios.all z1H=true):∀ (n i:Nat) (S:List Rd) (al:AL) (H:z0B),i+n=ios.length →
  z7W P (ios.drop i) al H K (fun _ _ _=>False)→vsL P base ios B K G (zYq i n) S al H
 | 0,i,S,al,H,hn,h=>by
  rw [lDC (by omega)] at h
  exact h
 | n+1,i,S,al,H,hn,h=>by
  have hi:i<ios.length:=by omega
  rw [lBQ hi] at h
  obtain ⟨v,rd,h1,h2⟩:=z4J (lAZ.1 hq _ (lBY hi)) h
  simp only [zYq,vsL,lAG hi,h1]
  exact zYS hq n (i+1) _ _ _ (by omega) h2
theorem zAU {ios:List IOper} {B:List (List Nat)} {s:Sched} {ks:List Nat} (hs:s=zYq 0 ios.length) (hq:ios.all z1H=true)
  (h:VV P ios al H (fun a h=>Q .normal (z1g a ks) h) (fun _ _ _=>False)):WI P (.draw 0 ios B s (some ks)) Q al H:=by
 subst hs
 refine ⟨⟨fun _=>False,fun _ _ f=>f.elim,?_⟩⟩
 have:z1P H 0=H:=by simp [z1P]
 rw [this]
 exact zYS hq ios.length 0 [] al H (by omega) h.1
theorem z6q {id off n sz:Nat} (hx:evL al x=.sl id off n sz) (h:VV P os ((d,.int .i64 n)::al) H K Qp):VV P (⟨some d,.i (.d .len),[x],none,none⟩::os) al H K Qp :=
 z2K (v:=.int .i64 n) (by simp only [z1G,hx,z1t]) h
structure VS (P:Program) (base:Nat) (ios:List IOper) (B:List (List Nat)) (K:KL) (G:AV→Prop) (s:Sched) (al:AL) (H:z0B):Prop where
 h:∀ S:List Rd,(∀ r∈S,z0p r.n r.x H=some r.v)→vsL P base ios B K G s S al H
theorem z8Y {o:IOper} {v:AV} {n:Option Nat} {u:AV} (h:z0q o al H=some (v,some (n,u))):z0p n u H=some v:=by
 have ex:z1x o al H=some (v,some (n,u))→z0p n u H=some v:=by
  intro h
  unfold z1x at h
  split at h
  ·split at h
   ·injection h with h;injection h with _ h;cases h
   ·cases h
  ·split at h
   ·split at h
    ·rename_i hl
     injection h with h;injection h with h1 h2;injection h2 with h2;injection h2 with h2 h3
     subst h1;subst h2;subst h3;exact hl
    ·cases h
   ·cases h
  ·cases h
 unfold z0q at h
 split at h
 ·exact ex h
 ·split at h
  ·split at h
   ·exact ex h
   ·injection h with h;injection h with _ h;cases h
  ·injection h with h;injection h with _ h;cases h
  ·cases h
section vs
variable {base:Nat} {ios:List IOper} {B:List (List Nat)} {Gp:AV→Prop} {s:Sched}
theorem zZA {i:Nat} {o:IOper} (ho:ios[i]? =some o) (hq:z1H o=true) (h:VV P [o] al H (fun al' _=>VS P base ios B K Gp s al' H) (fun _ _ _=>False)):VS P base ios B K Gp (.quiet i s) al H:=by
 refine ⟨fun S hS=>?_⟩
 obtain ⟨v,rd,h1,h2⟩:=z4J (K:=fun al' _=>VS P base ios B K Gp s al' H) hq h.1
 simp only [vsL,ho,h1]
 refine h2.1 _ fun r hr=>?_
 cases rd with
 | none=>exact hS r hr
 | some q =>
  obtain ⟨n,u⟩:=q
  rcases lAV.1 hr with rfl | hr
  ·exact z8Y h1
  ·exact hS r hr
theorem zZB {i:Nat} {o:IOper} (ho:ios[i]? =some o) (hr:o.res=none) (hb:base≤H.length) (h:VV P [o] al H (fun al' H'=>H'=H∧VS P base ios B K Gp s al' H) (fun _ v _=>Gp v)) :
  VS P base ios B K Gp (.branch i s .stop) al H:=by
 refine ⟨fun S hS=>?_⟩
 have hrr:rOf base o H=H.length:=by simp [rOf,hr]
 simp only [vsL,ho,hrr]
 refine ⟨⟨?_,lCM hb,?_⟩,trivial⟩
 ·simp [z9Y]
 ·refine z8h.vopL_mono h.1 ?_ (fun _ _ _ q=>q)
  rintro al' H' ⟨rfl,q⟩
  refine ⟨?_,q.1 S hS⟩
  unfold z5v
  rw [ho]
  simp only
  split
  ·trivial
  ·exact fun r hr _=>hS r hr
theorem zRv (h:K al H):VS P base ios B K Gp .done al H:=⟨fun _ _=>h⟩
end vs
theorem zHC {base:Nat} {ios:List IOper} {B:List (List Nat)} {Gp:AV→Prop} {s:Sched} {H':z0B} (h:VS P base ios B K Gp s al H'):VV P [] al H (fun a _=>VS P base ios B K Gp s a H') Qp:=⟨h⟩
theorem zHD {S:AL→Prop} (h:S al):VV P [] al H (fun a h=>h=H∧S a) Qp:=⟨⟨rfl,h⟩⟩
theorem zJp {ios:List IOper} {B:List (List Nat)} {s:Sched} {ks:List Nat} (h:VS P H.length ios B (fun a h=>Q .normal (z1g a ks) h) (fun _=>False) s al H):WI P (.draw 0 ios B s (some ks)) Q al H:=by
 refine ⟨⟨fun _=>False,fun _ _ f=>f.elim,?_⟩⟩
 have:z1P H 0=H:=by simp [z1P]
 rw [this]
 exact h.1 [] (by simp)
theorem zLx {base:Nat} {ios:List IOper} {B:List (List Nat)} {Gp:AV→Prop} {ks:List Nat} {al':AL} (hk:z1g al ks=al') (h:Q .normal al' H):VS P base ios B (fun a h=>Q .normal (z1g a ks) h) Gp .done al H:=zRv (by rw [hk];exact h)
end Go.Ab
