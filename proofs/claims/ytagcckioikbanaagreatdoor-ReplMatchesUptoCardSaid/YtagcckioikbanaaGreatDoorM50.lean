/- Part 50 of the proof. -/
import Derived.Test.YtagcckioikbanaaGreatDoorM37
import Derived.Test.YtagcckioikbanaaGreatDoorM46
import Derived.Test.YtagcckioikbanaaGreatDoorM47
import Derived.Test.YtagcckioikbanaaGreatDoorM49
set_option linter.unusedVariables false
set_option linter.unusedSimpArgs false
namespace Go.Ab
open Go
set_option maxRecDepth 100000
set_option maxHeartbeats 8000000
theorem zGA (l:List Mt):Sl 3 (zKf l) (l.map mtA):=by
 unfold zKf
 cases l with
 | nil=>exact .nil
 | cons a l=>exact .list _
def zEW (p:List Mt × Int):Bool:=if p.2==0 then ((p.1.length:Int)==0) else false
theorem zMC {r:Ru} {sg x:List Bt} (hr:okR r):msP r sg x=msR r sg x:=by
 unfold msP msR
 rw [←z9C]
 cases h:(zDh r sg [x] != 0)
 ·simp only [lAV,if_false]
  rw [←zEt hr (by simpa using h)];rfl
 ·rfl
theorem zTP {r:Ru} {sg x:List Bt} (hx:x.length≤1000000) (hp:r.pairs.length≤1000000000000):(msR r sg x).1.length≤6000000000000000000:=by
 unfold msR
 split
 ·simp
 ·have h:=zCw (rows:=z3s r x) (len:=zFM r) (m:=r.pairs.length) (fun p=>zNK) x.length
  have h2:x.length*(6*r.pairs.length)≤1000000*(6*1000000000000):=Nat.mul_le_mul hx (Nat.mul_le_mul (lAL _) hp)
  show (zER (z3s r x) (zFM r) x.length).length≤_
  omega
section
variable {r:Ru} {sv xv:AV} {sg x:List Bt}
theorem a13 (k11:∀ H,z0D PP 10 [z6e r,sv,xv] H (z1A H (.tuple [zKf (msP r sg x).1,.int .i64 (msP r sg x).2]))) (H:z0B):z0D PP 12 [z6e r,sv,xv] H (z1A H (.tuple [.bool (zEW (msP r sg x)),.int .i64 (msP r sg x).2])):=by
 refine z0D.plainE (zHZ _ _) ?_
 have hsc:AV.scalar (z0T r.pn r.pairs)=true:=z2E _ _
 have hsc2:AV.scalar (z0U r.ln r.places)=true:=z2F _ _
 refine is12.c3 z0R mixed rfl ?_
 rw [lAK]
 rw [z5y] at k11 ⊢
 generalize z0T r.pn r.pairs=pv0 at *
 generalize z0U r.ln r.places=lv0 at *
 refine z1e (z0c ?_)
 refine z1E (.agg [.int .i64 r.kind,pv0,lv0,.bool r.below]) rfl (by simp only [AV.shaped,lB4,hsc,hsc2];first | done | rfl) ?_
 have x4:(H++[Blk.cells [.int .i64 r.kind,pv0,lv0,.bool r.below]])[H.length]? =some (.cells [.int .i64 r.kind,pv0,lv0,.bool r.below]):=z0K
 have xk:=zGW (H:=H).app [Blk.cells [.int .i64 r.kind,pv0,lv0,.bool r.below]]
 show VV _ _ _ (H++[Blk.cells [.int .i64 r.kind,pv0,lv0,.bool r.below]]) _ _
 generalize (H++[Blk.cells [.int .i64 r.kind,pv0,lv0,.bool r.below]]:z0B)=X at *
 refine z0A ?_
 refine z0H rfl (k11 _) ?_
 have hs:=zGA (msP r sg x).1
 have hlm:((msP r sg x).1.map mtA).length=(msP r sg x).1.length:=lAE _
 unfold zEW
 generalize msP r sg x=p at *
 obtain ⟨l,e⟩:=p
 simp only at hs hlm ⊢
 generalize zKf l=lv at *
 refine z0A ?_
 cases he:(e==0)
 ·refine z0A ?_
  exact z0Y rfl (.inl ⟨_,rfl,rfl,xk⟩)
 ·refine z0A ?_
  rw [hlm]
  refine z0A ?_
  exact z0Y rfl (.inl ⟨_,rfl,rfl,xk⟩)
theorem a14 (k12:∀ H,z0D PP 11 [z6e r,sv,xv] H (z1A H (.tuple [zKf (msR r sg x).1,.int .i64 (msR r sg x).2]))) (H:z0B):z0D PP 13 [z6e r,sv,xv] H (z1A H (.tuple [.bool (zEW (msR r sg x)),.int .i64 (msR r sg x).2])):=by
 refine z0D.plainE (zHZ _ _) ?_
 have hsc:AV.scalar (z0T r.pn r.pairs)=true:=z2E _ _
 have hsc2:AV.scalar (z0U r.ln r.places)=true:=z2F _ _
 refine is13.c3 z0R mixed rfl ?_
 rw [lAK]
 rw [z5y] at k12 ⊢
 generalize z0T r.pn r.pairs=pv0 at *
 generalize z0U r.ln r.places=lv0 at *
 refine z1e (z0c ?_)
 refine z1E (.agg [.int .i64 r.kind,pv0,lv0,.bool r.below]) rfl (by simp only [AV.shaped,lB4,hsc,hsc2];first | done | rfl) ?_
 have x4:(H++[Blk.cells [.int .i64 r.kind,pv0,lv0,.bool r.below]])[H.length]? =some (.cells [.int .i64 r.kind,pv0,lv0,.bool r.below]):=z0K
 have xk:=zGW (H:=H).app [Blk.cells [.int .i64 r.kind,pv0,lv0,.bool r.below]]
 show VV _ _ _ (H++[Blk.cells [.int .i64 r.kind,pv0,lv0,.bool r.below]]) _ _
 generalize (H++[Blk.cells [.int .i64 r.kind,pv0,lv0,.bool r.below]]:z0B)=X at *
 refine z0A ?_
 refine z0H rfl (k12 _) ?_
 have hs:=zGA (msR r sg x).1
 have hlm:((msR r sg x).1.map mtA).length=(msR r sg x).1.length:=lAE _
 unfold zEW
 generalize msR r sg x=p at *
 obtain ⟨l,e⟩:=p
 simp only at hs hlm ⊢
 generalize zKf l=lv at *
 refine z0A ?_
 cases he:(e==0)
 ·refine z0A ?_
  exact z0Y rfl (.inl ⟨_,rfl,rfl,xk⟩)
 ·refine z0A ?_
  rw [hlm]
  refine z0A ?_
  exact z0Y rfl (.inl ⟨_,rfl,rfl,xk⟩)
theorem zXC {a b:AV} {xs ys:List AV} (ha:Sl 1 a xs) (hb:Sl 1 b ys):z5M (if 2*1=0 then [] else z1J 2 [.nilslice]) [(0,1),(1,1)] [a,b]=some [a,b]:=by
 cases ha<;>cases hb<;>rfl
theorem zRH {P:Program} {H:z0B} {al:AL} {K:KL} {Qp:AL→AV→z0B→Prop} {os:List IOper} {d:Nat} {y z:Arg} {m:Mt} (hy:evL al y=mtA m) (hz:evL al z=mtA m) (h:VV P os ((d,.bool false)::al) H K Qp) :
  VV P (⟨some d,.i (.d (.eqs true [.int,.int,.int])),[y,z],none,none⟩::os) al H K Qp:=by
 refine z2S (v:=.bool false) ?_ h
 simp only [z0u,hy,hz,mtA]
 simp [z1W,zKH]
theorem a3 (kn:∀ H,z0D PP 7 [] H (z1A H (.bool true))) (hr:okR r) (ht:∀ p∈r.pairs,okT p.a.l∧okT p.b.l) (hsv:Sl 1 sv (sg.map .str)) (hx:Sl 1 xv (x.map .str)) (hsw:okW sg) (hxw:okW x) (hst:okT sg) (hxt:okT x)
  (H:z0B):z0D PP 4 [z6e r,sv,xv] H (z1A H (.bool true)):=by
 refine z0D.plainE (z0N.bool _) ?_
 have hgood:zJm r=false→[sg,x].foldl nww 0≤24000→AskGood r sg x []:=fun h1 h2=>zQG hr h1 h2
 have hc3:∀ v∈[sv,xv],v.cells=[v]:=fun v hv=>by
  simp only [lAT,lA5,or_false] at hv
  rcases hv with rfl | rfl
  ·exact (z5S hsv).2.1
  ·exact (z5S hx).2.1
 obtain ⟨s1,s2,s3⟩:=z5S hsv
 obtain ⟨x1,x2,x3⟩:=z5S hx
 have k8:=fun H'=>c10 r hr ht H'
 have k9:=fun H'=>a9 (wsv:=.list 1 [sv,xv]) (vs:=[sv,xv]) (ws:=[sg,x]) (.list _) rfl hc3 (fun i v w h1 h2=>by
  match i with
  | 0 =>
   simp only [lA0,Option.some.injEq] at h1 h2
   subst h1;subst h2
   exact ⟨hsv,hst⟩
  | 1 =>
   simp only [lBD,lA0,Option.some.injEq] at h1 h2
   subst h1;subst h2
   exact ⟨hx,hxt⟩
  | i+2=>simp at h1) (by simp) H'
 have k11:=fun (g:AskGood r sg x []) H'=>a11 hsv hsw g.sn hx hxw g.xn g.r2 (fun h=>(zDW (y:=x) hr (by rw [←z9d];exact h)).2.1) H'
 have k12:=fun (g:AskGood r sg x []) H'=>a12 hsv hsw g.sn hx hxw g.xn hr g.oc (fun h=>(zDW (y:=x) hr (by rw [←z9d,z9C];exact h)).2.2.1) H'
 have k13:=fun (g:AskGood r sg x []) H'=>a13 (k11 g) H'
 have k14:=fun (g:AskGood r sg x []) H'=>a14 (k12 g) H'
 rw [←zMC hr] at k12 k14
 have hsc:AV.scalar (z0T r.pn r.pairs)=true:=z2E _ _
 have hsc2:AV.scalar (z0U r.ln r.places)=true:=z2F _ _
 have hs:=zGA (msP r sg x).1
 have hlm:((msP r sg x).1.map mtA).length=(msP r sg x).1.length:=lAE _
 refine is4.c3 z0R mixed rfl ?_
 rw [lAK]
 rw [z5y] at k8 k11 k12 k13 k14 ⊢
 generalize z0T r.pn r.pairs=pv0 at *
 generalize z0U r.ln r.places=lv0 at *
 refine z1e (z0c ?_)
 refine z1E (.agg [.int .i64 r.kind,pv0,lv0,.bool r.below]) rfl (by simp only [AV.shaped,lB4,hsc,hsc2];first | done | rfl) ?_
 have z1:(H++[Blk.cells [.int .i64 r.kind,pv0,lv0,.bool r.below]])[H.length]? =some (.cells [.int .i64 r.kind,pv0,lv0,.bool r.below]):=z0K
 have zk:=zGW (H:=H).app [Blk.cells [.int .i64 r.kind,pv0,lv0,.bool r.below]]
 have zl:(H++[Blk.cells [.int .i64 r.kind,pv0,lv0,.bool r.below]]:z0B).length=H.length+1:=by simp
 show VV _ _ _ (H++[Blk.cells [.int .i64 r.kind,pv0,lv0,.bool r.below]]) _ _
 generalize (H++[Blk.cells [.int .i64 r.kind,pv0,lv0,.bool r.below]]:z0B)=X at *
 generalize hov:zJm r=ov at *
 generalize hnw:[sg,x].foldl nww 0=nn at *
 refine z0A ?_
 refine z0H rfl (k8 _) ?_
 cases ov
 rotate_left
 ·refine z0A ?_
  refine z0H rfl (kn _) ?_
  refine z0A ?_
  exact z0Y rfl (.inl ⟨_,rfl,rfl,zk⟩)
 refine z0A ?_
 refine z0Z (out:=[sv,xv]) (zXC hsv hx) ?_
 refine z0A ?_
 refine z0L (R:=z1A ((X++[Blk.cells [sv,xv]]).set X.length .dead) (.int .i64 nn)) rfl (z0D.sealArgs (id:=X.length) (args':=[.list 1 [sv,xv]]) z0K rfl (fun i=>?_) (k9 _)) ?_ ?_
 ·match i with
  | 0=>exact .sl 0 2 1 [sv,xv] rfl (fun v hv=>by rw [hc3 v hv];rfl) (by rw [z1B hc3];rfl) (by simp)
  | i+1=>exact .refl _
 rotate_left
 ·rintro u V' ⟨hu,_⟩
  cases hu
 rintro u V ⟨hu,rfl⟩
 cases hu
 have vk:AskMs [] H ((X++[Blk.cells [sv,xv]]).set X.length .dead):=(zk.app _).own (by omega) (fun p hp=>by cases hp)
 have v4:((X++[Blk.cells [sv,xv]]).set X.length .dead)[H.length]? =some (.cells [.int .i64 r.kind,pv0,lv0,.bool r.below]):=z0J (z0G z1) (by omega)
 generalize (X++[Blk.cells [sv,xv]]).set X.length .dead=Y at *
 clear z1 zk zl k9
 refine z0A ?_
 refine z0Q _ rfl ?_ ?_<;>intro hq
 ·refine z0A ?_
  refine z0H rfl (kn _) ?_
  refine z0A ?_
  exact z0Y rfl (.inl ⟨_,rfl,rfl,vk⟩)
 simp only [lAC] at hq
 have g:=hgood rfl (by omega)
 have k11:=k11 g
 have k12:=k12 g
 have k13:=k13 g
 have k14:=k14 g
 have hll:=zTP (r:=r) (sg:=sg) g.xn (by have:=hr.np;omega)
 rw [←zMC hr] at hll
 generalize zEW (msP r sg x)=qv at *
 generalize msP r sg x=p at *
 obtain ⟨l,e⟩:=p
 simp only at k11 k12 k13 k14 hs hlm hll
 have hget:∀ (i:Nat) (m:Mt),l[i]? =some m→(l.map mtA)[i]? =some (mtA m):=fun i m h=>by rw [lAM,h];rfl
 generalize zKf l=lv at *
 refine z0A ?_
 refine z0H rfl (k11 _) ?_
 refine z0A ?_
 refine z0H rfl (k12 _) ?_
 have h1:(((l.map mtA).length:Int) != ((l.map mtA).length:Int))=false:=bne_self_eq_false _
 have h2:(e != e)=false:=bne_self_eq_false e
 refine z0A ?_
 refine z0F l.length (fun i al W=>al=[(1,sv),(2,xv),(3,.ptr H.length 0),(7,lv),(9,lv),(11,.int .i64 i)]∧W=Y) ⟨rfl,rfl⟩ ?_
 rintro i _ Y hi ⟨rfl,rfl⟩
 have e1:decide ((i:Int)<((l.map mtA).length:Int))=decide (i<l.length):=by rw [hlm];simp only [lAP];omega
 refine z0A ?_
 rw [e1]
 cases hc:decide (i<l.length)
 ·refine z0A ?_
  refine z0H rfl (k13 _) ?_
  refine z0A ?_
  refine z0H rfl (k14 _) ?_
  refine z0A ?_
  refine z2S (v:=.bool true) (by cases qv<;>rfl) ?_
  have he:(e==e)=true:=beq_self_eq_true e
  refine z0A ?_
  rw [he]
  refine z0A ?_
  refine z0H rfl (kn _) ?_
  refine z0A ?_
  exact z0Y rfl (.inl ⟨_,rfl,rfl,vk⟩)
 simp only [lAD] at hc
 obtain ⟨m,hm⟩:=z0M (l:=l) (i:=i) hc
 have hmv:=hget i m hm
 refine z0A ?_
 refine zRH (m:=m) rfl rfl ?_
 refine z0A ?_
 exact ⟨hc,rfl,rfl⟩
end
end Go.Ab
