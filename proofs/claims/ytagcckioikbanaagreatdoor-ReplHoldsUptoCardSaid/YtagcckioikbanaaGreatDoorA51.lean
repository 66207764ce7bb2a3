/- Part 51 of the proof. -/
import Derived.Test.YtagcckioikbanaaGreatDoorA37
import Derived.Test.YtagcckioikbanaaGreatDoorA47
import Derived.Test.YtagcckioikbanaaGreatDoorA49
import Derived.Test.YtagcckioikbanaaGreatDoorA50
set_option linter.unusedVariables false
set_option linter.unusedSimpArgs false
namespace Go.Ab
open Go
set_option maxRecDepth 100000
set_option maxHeartbeats 8000000
theorem zYL {a b c:AV} {xs ys zs:List AV} (ha:Sl 1 a xs) (hb:Sl 1 b ys) (hc:Sl 1 c zs):z4T (if 3*1=0 then [] else z1C 3 [.nilslice]) [(0,1),(1,1),(2,1)] [a,b,c]=some [a,b,c]:=by
 cases ha<;>cases hb<;>cases hc<;>rfl
def zGW (r:Ru) (sv xv yv:AV):AV:=.agg [.int .i64 r.kind,z0T r.pn r.pairs,z0U r.ln r.places,.bool r.below,sv,xv,yv]
section
variable {r:Ru} {sv xv yv:AV} {sg x y:List Bt}
theorem a4 (kn:∀ H,z0C PP 7 [] H (z1D H (.bool true))) (hr:okR r) (ht:∀ p∈r.pairs,okT p.a.l∧okT p.b.l) (hsv:Sl 1 sv (sg.map .str)) (hx:Sl 1 xv (x.map .str)) (hy:Sl 1 yv (y.map .str)) (hsw:okW sg) (hxw:okW x) (hyw:okW y) (hst:okT sg) (hxt:okT x) (hyt:okT y)
  (H:z0B):z0C PP 3 [zGW r sv xv yv] H (z1D H (.bool true)):=by
 refine z0C.plainE (z0N.bool _) ?_
 have hgood:zKt r=false→[sg,x,y].foldl nww 0≤24000→AskGood r sg x y:=zRE hr
 have hc3:∀ v∈[sv,xv,yv],v.cells=[v]:=fun v hv=>by
  simp only [lAV,lA7,or_false] at hv
  rcases hv with rfl | rfl | rfl
  ·exact (z3b hsv).2.1
  ·exact (z3b hx).2.1
  ·exact (z3b hy).2.1
 obtain ⟨s1,s2,s3⟩:=z3b hsv
 obtain ⟨x1,x2,x3⟩:=z3b hx
 obtain ⟨y1,y2,y3⟩:=z3b hy
 have k8:=fun H'=>c10 r hr ht H'
 have k9:=fun H'=>a9 (wsv:=.list 1 [sv,xv,yv]) (vs:=[sv,xv,yv]) (ws:=[sg,x,y]) (.list _) rfl hc3 (fun i v w h1 h2=>by
  match i with
  | 0 =>
   simp only [lAY,Option.some.injEq] at h1 h2
   subst h1;subst h2
   exact ⟨hsv,hst⟩
  | 1 =>
   simp only [lBD,lAY,Option.some.injEq] at h1 h2
   subst h1;subst h2
   exact ⟨hx,hxt⟩
  | 2 =>
   simp only [lBD,lAY,Option.some.injEq] at h1 h2
   subst h1;subst h2
   exact ⟨hy,hyt⟩
  | i+3=>simp at h1) (by simp) H'
 have k15:=fun (g:AskGood r sg x y) H'=>a15 hsv hsw g.sn hx hy hxw hyw g.xn g.yn g.r2 (fun h=>(zEW hr h).2.1) H'
 have k16:=fun (g:AskGood r sg x y) H'=>a16 hsv hsw g.sn hx hy hxw hyw g.xn g.yn hr g.oc (fun h=>(zEW hr (by rw [zKB];exact h)).2.2.1) H'
 rw [zLH hr] at k15
 have hsc:AV.scalar (z0T r.pn r.pairs)=true:=z1n _ _
 have hsc2:AV.scalar (z0U r.ln r.places)=true:=z1p _ _
 refine is3.c1 z0P mixed rfl ?_
 rw [lAJ]
 unfold zGW
 rw [z7r] at k8 k15 k16
 generalize z0T r.pn r.pairs=pv0 at *
 generalize z0U r.ln r.places=lv0 at *
 refine z1E (z0V ?_)
 have hcl:AV.cells (.agg [.int .i64 r.kind,pv0,lv0,.bool r.below,sv,xv,yv])=[.int .i64 r.kind,pv0,lv0,.bool r.below,sv,xv,yv]:=rfl
 refine z0y (.agg [.int .i64 r.kind,pv0,lv0,.bool r.below,sv,xv,yv]) rfl (by simp only [AV.shaped,lB3,hsc,hsc2,s3,x3,y3];first | done | rfl) ?_
 rw [hcl]
 have z1:(H++[Blk.cells [.int .i64 r.kind,pv0,lv0,.bool r.below,sv,xv,yv]])[H.length]? =some (.cells [.int .i64 r.kind,pv0,lv0,.bool r.below,sv,xv,yv]):=z0E
 have zk:=zCE (H:=H).app [Blk.cells [.int .i64 r.kind,pv0,lv0,.bool r.below,sv,xv,yv]]
 have zl:(H++[Blk.cells [.int .i64 r.kind,pv0,lv0,.bool r.below,sv,xv,yv]]:z0B).length=H.length+1:=by simp
 generalize (H++[Blk.cells [.int .i64 r.kind,pv0,lv0,.bool r.below,sv,xv,yv]]:z0B)=X at *
 generalize hov:zKt r=ov at *
 generalize hnw:[sg,x,y].foldl nww 0=nn at *
 refine z0A ?_
 refine z0J rfl (k8 _) ?_
 cases ov
 rotate_left
 ·refine z0A ?_
  refine z0J rfl (kn _) ?_
  refine z0A ?_
  exact z0W rfl (.inl ⟨_,rfl,rfl,zk⟩)
 refine z0A ?_
 refine z0S (out:=[sv,xv,yv]) (zYL hsv hx hy) ?_
 refine z0A ?_
 refine z0L (R:=z1D ((X++[Blk.cells [sv,xv,yv]]).set X.length .dead) (.int .i64 nn)) rfl (z0C.sealArgs (id:=X.length) (args':=[.list 1 [sv,xv,yv]]) z0E rfl (fun i=>?_) (k9 _)) ?_ ?_
 ·match i with
  | 0=>exact .sl 0 3 1 [sv,xv,yv] rfl (fun v hv=>by rw [hc3 v hv];rfl) (by rw [z1J hc3];rfl) (by simp)
  | i+1=>exact .refl _
 rotate_left
 ·rintro u V' ⟨hu,_⟩
  cases hu
 rintro u V ⟨hu,rfl⟩
 cases hu
 have vk:AskMs [] H ((X++[Blk.cells [sv,xv,yv]]).set X.length .dead):=(zk.app _).own (by omega) (fun p hp=>by cases hp)
 have v4:((X++[Blk.cells [sv,xv,yv]]).set X.length .dead)[H.length]? =some (.cells [.int .i64 r.kind,pv0,lv0,.bool r.below,sv,xv,yv]):=z0K (z0G z1) (by omega)
 generalize (X++[Blk.cells [sv,xv,yv]]).set X.length .dead=Y at *
 clear z1 zk zl k9
 refine z0A ?_
 refine z0R _ rfl ?_ ?_<;>intro hq
 ·refine z0A ?_
  refine z0J rfl (kn _) ?_
  refine z0A ?_
  exact z0W rfl (.inl ⟨_,rfl,rfl,vk⟩)
 simp only [lAC] at hq
 have g:=hgood rfl (by omega)
 have k15:=k15 g
 have k16:=k16 g
 refine z0A ?_
 refine z0J rfl (k15 _) ?_
 refine z0A ?_
 refine z0J rfl (k16 _) ?_
 generalize z9X r sg x y=q at *
 obtain ⟨b,e⟩:=q
 simp only
 refine z0A ?_
 refine z2K (v:=.bool true) (by cases b<;>rfl) ?_
 have he:(e==e)=true:=beq_self_eq_true e
 refine z0A ?_
 rw [he]
 refine z0A ?_
 refine z0J rfl (kn _) ?_
 refine z0A ?_
 exact z0W rfl (.inl ⟨_,rfl,rfl,vk⟩)
end
end Go.Ab
