/- Part 40 of the proof. -/
import Derived.Test.YtagcckioikbanaaGreatDoorM39
set_option linter.unusedVariables false
set_option linter.unusedSimpArgs false
namespace Go.Ab
open Go
set_option maxRecDepth 100000
set_option maxHeartbeats 8000000
section vx3
variable {P:Program} {H:z0B} {al:AL} {Q:PL} {K:KL} {O:AV→Prop} {base:Nat} {ios:List IOper} {B:List (List Nat)} {Gp:AV→Prop} {s:Sched}
theorem vx_r {i d k:Nat} {zs:List AV} (ho:ios[i]? =some ⟨some d,.i (.m (.alloc zs)),[],none,some k⟩) (hg:H[base+k]? =some .resv)
  (hp:∀ n x v,O x→z0h n x H=some v→z0h n x (H.set (base+k) (.cells zs))=some v)
  (h:VX P O base ios B K Gp s ((d,.ptr (base+k) 0)::al) (H.set (base+k) (.cells zs))):VX P O base ios B K Gp (.branch i s .stop) al H:=by
 refine ⟨fun S hS=>?_⟩
 have hlt:=(lAA.1 hg).1
 have hrr:rOf base ⟨some d,.i (.m (.alloc zs)),[],none,some k⟩ H=base+k:=rfl
 have hput:put H (base+k) (.cells zs)=H.set (base+k) (.cells zs):=by
  unfold put
  rw [if_pos hlt]
 have hS':∀ r∈S,O r.x∧z0h r.n r.x (H.set (base+k) (.cells zs))=some r.v:=fun r hr=>⟨(hS r hr).1,hp _ _ _ (hS r hr).1 (hS r hr).2⟩
 simp only [vsL,ho,hrr]
 refine ⟨⟨?_,lCN (by omega),?_⟩,trivial⟩
 ·simp [z9J,hg]
 ·have hi:z5a (.m (.alloc zs)) (z0u al []) H (base+k)=some (.ptr (base+k) 0,H.set (base+k) (.cells zs)):=by
   rw [←hput];rfl
  simp only [zKe,z3w,hi]
  refine ⟨?_,h.1 S hS'⟩
  unfold z5s
  rw [ho]
  simp only
  split
  ·trivial
  ·exact fun r hr _=>(hS' r hr).2
theorem zMM {ks:List Nat} (O:AV→Prop) (h:VX P O H.length ios B (fun a h=>Q .normal (z1d a ks) h) (fun _=>False) s al (H++[.resv,.resv])):WI P (.draw 2 ios B s (some ks)) Q al H:=by
 refine ⟨⟨fun _=>False,fun _ _ f=>f.elim,?_⟩⟩
 have:z1Q H 2=H++[.resv,.resv]:=by simp [z1Q,List.replicate]
 rw [this]
 exact h.1 [] (by simp)
end vx3
abbrev syW (sg:List Bt):Bt→Bt:=fun t=>[mu sg t]
structure NI (X:z0B) (aid mid n:Nat) (sv:AV) (sy:Bt→Bt) (L R:Ex) (a3 a5 a9 a45 a46 a47:AV) (c4 c9 c10 c11:Bool) (al:AL) (H:z0B):Prop where
 l51:z2V al 51=.ptr aid 0
 l53:z2V al 53=enc L
 l54:z2V al 54=sv
 l56:z2V al 56=.ptr aid 0
 l58:z2V al 58=enc R
 l59:z2V al 59=sv
 l3:z2V al 3=a3
 l5:z2V al 5=a5
 l9:z2V al 9=a9
 l45:z2V al 45=a45
 l46:z2V al 46=a46
 l47:z2V al 47=a47
 l55:c4=true→z2V al 55=z1j (z7s sy n L)
 l60:c9=true→z2V al 60=z1j (z7s sy (n+L.size) R)
 l12:c10=true→z2V al 12=.ptr X.length 0
 l13:c11=true→z2V al 13=.ptr (X.length+1) 0
 ga:H[aid]? =some (CB mid (n+(if c4 then L.size else 0)+(if c9 then R.size else 0)))
 g0:H[X.length]? =some (if c10 then .cells [.nilptr] else .resv)
 g1:H[X.length+1]? =some (if c11 then .cells [.nilptr] else .resv)
 old:∀ (j:Nat) (b:Blk),j<X.length→j≠aid→X[j]? =some b→H[j]? =some b
 len:X.length+2≤H.length
structure NCx (n:Nat) (sv:AV) (sg:List Bt) (L R:Ex):Prop where
 hsv:Sl 1 sv (sg.map .str)
 hsg:zCX sg
 hsn:sg.length≤256
 nb:n+L.size+R.size≤1000000
 okl:okE L
 okr:okE R
 sl:∀ t∈z1V L,t∈sg
 sr:∀ t∈z1V R,t∈sg
theorem zLz (m:Nd):∃ cs,z1j m=.cptr cs:=by
 obtain ⟨a,b,c,d⟩:=m
 rw [z1j];exact ⟨_,rfl⟩
section ni
variable {X:z0B} {aid mid n:Nat} {sv:AV} {sg:List Bt} {L R:Ex} {a3 a5 a9 a45 a46 a47:AV} {al:AL} {H:z0B} {Q:PL} {K:KL} {ios:List IOper} {B:List (List Nat)} {s:Sched} {l:List Nat}
theorem ni4 {c10 c11:Bool} (ho:ios[4]? =some ⟨some 55,.callF 48,[.tmp 51,.tmp 53,.tmp 54],none,none⟩) (hl:∀ j∈l,j<X.length∧j≠aid) (ha:aid<X.length) (hc:NCx n sv sg L R)
  (h:NI X aid mid n sv (syW sg) L R a3 a5 a9 a45 a46 a47 false false c10 c11 al H)
  (k:∀ al H,NI X aid mid n sv (syW sg) L R a3 a5 a9 a45 a46 a47 true false c10 c11 al H→VX PP (z2r l) X.length ios B K (fun _=>False) s al H):VX PP (z2r l) X.length ios B K (fun _=>False) (.branch 4 s .stop) al H:=by
 have hlen:=h.len
 have hnb:=hc.nb
 refine zKc ho rfl (by omega) ?_
 refine z0L (args:=[.ptr aid 0,enc L,sv]) (by simp only [z0u,evL,h.l51,h.l53,h.l54]) (a61 hc.hsv hc.hsg hc.hsn L n H (by simpa using h.ga) (by omega) hc.okl hc.sl) ?_ ?_
 rotate_left
 ·rintro u V (⟨v,hu,_⟩ | ⟨p,_,hf⟩)
  ·cases hu
  ·exact hf
 rintro u V (⟨v,hu,hv,hm⟩ | ⟨p,hu,_⟩)
 rotate_left
 ·cases hu
 cases hu
 subst hv
 refine z2K (z1K fun j hj b hb'=>hm.old _ _ (hl j hj).2 hb') (k _ _ ⟨h.l51,h.l53,h.l54,h.l56,h.l58,h.l59,h.l3,h.l5,h.l9,h.l45,h.l46,h.l47,fun _=>rfl,fun e=>(by cases e),h.l12,h.l13,hm.get,hm.old _ _ (by omega) h.g0,hm.old _ _ (by omega) h.g1,fun j b h1 h2 h3=>hm.old _ _ h2 (h.old j b h1 h2 h3),by have:=hm.len;omega⟩)
theorem ni9 {c10 c11:Bool} (ho:ios[9]? =some ⟨some 60,.callF 48,[.tmp 56,.tmp 58,.tmp 59],none,none⟩) (hl:∀ j∈l,j<X.length∧j≠aid) (ha:aid<X.length) (hc:NCx n sv sg L R)
  (h:NI X aid mid n sv (syW sg) L R a3 a5 a9 a45 a46 a47 true false c10 c11 al H)
  (k:∀ al H,NI X aid mid n sv (syW sg) L R a3 a5 a9 a45 a46 a47 true true c10 c11 al H→VX PP (z2r l) X.length ios B K (fun _=>False) s al H):VX PP (z2r l) X.length ios B K (fun _=>False) (.branch 9 s .stop) al H:=by
 have hlen:=h.len
 have hnb:=hc.nb
 refine zKc ho rfl (by omega) ?_
 refine z0L (args:=[.ptr aid 0,enc R,sv]) (by simp only [z0u,evL,h.l56,h.l58,h.l59]) (a61 hc.hsv hc.hsg hc.hsn R (n+L.size) H (by simpa using h.ga) (by omega) hc.okr hc.sr) ?_ ?_
 rotate_left
 ·rintro u V (⟨v,hu,_⟩ | ⟨p,_,hf⟩)
  ·cases hu
  ·exact hf
 rintro u V (⟨v,hu,hv,hm⟩ | ⟨p,hu,_⟩)
 rotate_left
 ·cases hu
 cases hu
 subst hv
 refine z2K (z1K fun j hj b hb'=>hm.old _ _ (hl j hj).2 hb') (k _ _ ⟨h.l51,h.l53,h.l54,h.l56,h.l58,h.l59,h.l3,h.l5,h.l9,h.l45,h.l46,h.l47,h.l55,fun _=>rfl,h.l12,h.l13,hm.get,hm.old _ _ (by omega) h.g0,hm.old _ _ (by omega) h.g1,fun j b h1 h2 h3=>hm.old _ _ h2 (h.old j b h1 h2 h3),by have:=hm.len;omega⟩)
theorem zPT {c4 c9 c11:Bool} (ho:ios[10]? =some ⟨some 12,.i (.m (.alloc [.nilptr])),[],none,some 0⟩) (hl:∀ j∈l,j<X.length∧j≠aid) (ha:aid<X.length)
  (h:NI X aid mid n sv (syW sg) L R a3 a5 a9 a45 a46 a47 c4 c9 false c11 al H)
  (k:∀ al H,NI X aid mid n sv (syW sg) L R a3 a5 a9 a45 a46 a47 c4 c9 true c11 al H→VX PP (z2r l) X.length ios B K (fun _=>False) s al H):VX PP (z2r l) X.length ios B K (fun _=>False) (.branch 10 s .stop) al H:=by
 have hlen:=h.len
 refine vx_r ho h.g0 (z1K fun j hj b hb'=>z0J hb' (by have:=(hl j hj).1;omega)) (k _ _ ⟨h.l51,h.l53,h.l54,h.l56,h.l58,h.l59,h.l3,h.l5,h.l9,h.l45,h.l46,h.l47,h.l55,h.l60,fun _=>rfl,h.l13,z0J h.ga (by omega),?_,z0J h.g1 (by omega),fun j b h1 h2 h3=>z0J (h.old j b h1 h2 h3) (by omega),by simp;omega⟩)
 exact lAU (by omega)
theorem zPS {c4 c9 c10:Bool} (ho:ios[11]? =some ⟨some 13,.i (.m (.alloc [.nilptr])),[],none,some 1⟩) (hl:∀ j∈l,j<X.length∧j≠aid) (ha:aid<X.length)
  (h:NI X aid mid n sv (syW sg) L R a3 a5 a9 a45 a46 a47 c4 c9 c10 false al H)
  (k:∀ al H,NI X aid mid n sv (syW sg) L R a3 a5 a9 a45 a46 a47 c4 c9 c10 true al H→VX PP (z2r l) X.length ios B K (fun _=>False) s al H):VX PP (z2r l) X.length ios B K (fun _=>False) (.branch 11 s .stop) al H:=by
 have hlen:=h.len
 refine vx_r ho h.g1 (z1K fun j hj b hb'=>z0J hb' (by have:=(hl j hj).1;omega)) (k _ _ ⟨h.l51,h.l53,h.l54,h.l56,h.l58,h.l59,h.l3,h.l5,h.l9,h.l45,h.l46,h.l47,h.l55,h.l60,h.l12,fun _=>rfl,z0J h.ga (by omega),z0J h.g0 (by omega),?_,fun j b h1 h2 h3=>z0J (h.old j b h1 h2 h3) (by omega),by simp;omega⟩)
 exact lAU (by omega)
theorem zLC {P:Program} {H:z0B} {al:AL} {K:KL} {Qp:AL→AV→z0B→Prop} {os:List IOper} {x y:Arg} {id:Nat} {u:AV} {m:Nd} (hx:evL al x=.ptr id 0) (hy:evL al y=z1j m) (hg:H[id]? =some (.cells [u])) (h:VV P os al (H.set id (.cells [z1j m])) K Qp) :
  VV P (⟨none,.i (.m (.store 1)),[x,y],none,none⟩::os) al H K Qp:=by
 obtain ⟨cs,e⟩:=zLz m
 rw [e] at hy h
 exact z0k (.cptr cs) hx hy hg rfl rfl rfl h
theorem z5T (o12:ios[12]? =some ⟨none,.i (.m (.store 1)),[.tmp 12,.tmp 55],none,none⟩) (o13:ios[13]? =some ⟨none,.i (.m (.store 1)),[.tmp 13,.tmp 60],none,none⟩) (hl:∀ j∈l,j<X.length∧j≠aid) (ha:aid<X.length)
  (h:NI X aid mid n sv (syW sg) L R a3 a5 a9 a45 a46 a47 true true true true al H)
  (hq:∀ H':z0B,H'[aid]? =some (CB mid (n+L.size+R.size))→H'[X.length]? =some (.cells [z1j (z7s (syW sg) n L)])→H'[X.length+1]? =some (.cells [z1j (z7s (syW sg) (n+L.size) R)])→(∀ (j:Nat) (b:Blk),j<X.length→j≠aid→X[j]? =some b→H'[j]? =some b)→X.length+2≤H'.length →
   Q .normal [(3,a3),(5,a5),(9,a9),(12,.ptr X.length 0),(13,.ptr (X.length+1) 0),(45,a45),(46,a46),(47,a47)] H') :
  VX PP (z2r l) X.length ios B (fun a h=>Q .normal (z1d a [3,5,9,12,13,45,46,47]) h) (fun _=>False) (.branch 12 (.branch 13 .done .stop) .stop) al H:=by
 have hlen:=h.len
 have e:z1d al [3,5,9,12,13,45,46,47]=[(3,a3),(5,a5),(9,a9),(12,.ptr X.length 0),(13,.ptr (X.length+1) 0),(45,a45),(46,a46),(47,a47)]:=by
  simp only [z1d,h.l3,h.l5,h.l9,h.l12 rfl,h.l13 rfl,h.l45,h.l46,h.l47]
 refine zKc o12 rfl (by omega) (zLC (h.l12 rfl) (h.l55 rfl) h.g0 ?_)
 refine z2K (z1K fun j hj b hb'=>z0J hb' (by have:=(hl j hj).1;omega)) ?_
 have g1:=z0J (c:=.cells [z1j (z7s (syW sg) n L)]) h.g1 (i:=X.length) (by omega)
 refine zKc o13 rfl (by simp;omega) (zLC (h.l13 rfl) (h.l60 rfl) g1 ?_)
 refine z2K (z1K fun j hj b hb'=>z0J hb' (by have:=(hl j hj).1;omega)) ?_
 refine zKr e (hq _ ?_ ?_ ?_ ?_ ?_)
 ·exact z0J (z0J h.ga (by omega)) (by omega)
 ·exact z0J (lAU (by omega)) (by omega)
 ·exact lAU (by simp;omega)
 ·exact fun j b h1 h2 h3=>z0J (z0J (h.old j b h1 h2 h3) (by omega)) (by omega)
 ·simp;omega
theorem zTM (o4:ios[4]? =some ⟨some 55,.callF 48,[.tmp 51,.tmp 53,.tmp 54],none,none⟩) (o9:ios[9]? =some ⟨some 60,.callF 48,[.tmp 56,.tmp 58,.tmp 59],none,none⟩) (o10:ios[10]? =some ⟨some 12,.i (.m (.alloc [.nilptr])),[],none,some 0⟩) (o11:ios[11]? =some ⟨some 13,.i (.m (.alloc [.nilptr])),[],none,some 1⟩)
  (o12:ios[12]? =some ⟨none,.i (.m (.store 1)),[.tmp 12,.tmp 55],none,none⟩) (o13:ios[13]? =some ⟨none,.i (.m (.store 1)),[.tmp 13,.tmp 60],none,none⟩) (hl:∀ j∈l,j<X.length∧j≠aid) (ha:aid<X.length) (hc:NCx n sv sg L R)
  (h:NI X aid mid n sv (syW sg) L R a3 a5 a9 a45 a46 a47 false false false false al H)
  (hq:∀ H':z0B,H'[aid]? =some (CB mid (n+L.size+R.size))→H'[X.length]? =some (.cells [z1j (z7s (syW sg) n L)])→H'[X.length+1]? =some (.cells [z1j (z7s (syW sg) (n+L.size) R)])→(∀ (j:Nat) (b:Blk),j<X.length→j≠aid→X[j]? =some b→H'[j]? =some b)→X.length+2≤H'.length →
   Q .normal [(3,a3),(5,a5),(9,a9),(12,.ptr X.length 0),(13,.ptr (X.length+1) 0),(45,a45),(46,a46),(47,a47)] H') :
  VX PP (z2r l) X.length ios B (fun a h=>Q .normal (z1d a [3,5,9,12,13,45,46,47]) h) (fun _=>False) (.branch 4 (.branch 9 (.branch 10 (.branch 11 (.branch 12 (.branch 13 .done .stop) .stop) .stop) (.branch 11 (.branch 10 (.branch 12 (.branch 13 .done .stop) .stop) .stop) .stop)) (.branch 10 (.branch 9 (.branch 11 (.branch 12 (.branch 13 .done .stop) .stop) .stop) (.branch 11 (.branch 9 (.branch 12 (.branch 13 .done .stop) .stop) .stop) .stop)) (.branch 11 (.branch 9 (.branch 10 (.branch 12 (.branch 13 .done .stop) .stop) .stop) (.branch 10 (.branch 9 (.branch 12 (.branch 13 .done .stop) .stop) .stop) .stop)) .stop))) (.branch 10 (.branch 4 (.branch 9 (.branch 11 (.branch 12 (.branch 13 .done .stop) .stop) .stop) (.branch 11 (.branch 9 (.branch 12 (.branch 13 .done .stop) .stop) .stop) .stop)) (.branch 11 (.branch 4 (.branch 9 (.branch 12 (.branch 13 .done .stop) .stop) .stop) .stop) .stop)) (.branch 11 (.branch 4 (.branch 9 (.branch 10 (.branch 12 (.branch 13 .done .stop) .stop) .stop) (.branch 10 (.branch 9 (.branch 12 (.branch 13 .done .stop) .stop) .stop) .stop)) (.branch 10 (.branch 4 (.branch 9 (.branch 12 (.branch 13 .done .stop) .stop) .stop) .stop) .stop)) .stop))) al H:=by
 refine z9f ?_ ?_
 ·refine ni4 o4 hl ha hc h fun al H i=>?_
  refine z9f ?_ ?_
  ·refine ni9 o9 hl ha hc i fun al H i=>?_
   refine z9f ?_ ?_
   ·refine zPT o10 hl ha i fun al H i=>?_
    refine zPS o11 hl ha i fun al H i=>?_
    exact z5T o12 o13 hl ha i hq
   ·skip
    refine zPS o11 hl ha i fun al H i=>?_
    refine zPT o10 hl ha i fun al H i=>?_
    exact z5T o12 o13 hl ha i hq
  ·skip
   refine z9f ?_ ?_
   ·refine zPT o10 hl ha i fun al H i=>?_
    refine z9f ?_ ?_
    ·refine ni9 o9 hl ha hc i fun al H i=>?_
     refine zPS o11 hl ha i fun al H i=>?_
     exact z5T o12 o13 hl ha i hq
    ·skip
     refine zPS o11 hl ha i fun al H i=>?_
     refine ni9 o9 hl ha hc i fun al H i=>?_
     exact z5T o12 o13 hl ha i hq
   ·skip
    refine zPS o11 hl ha i fun al H i=>?_
    refine z9f ?_ ?_
    ·refine ni9 o9 hl ha hc i fun al H i=>?_
     refine zPT o10 hl ha i fun al H i=>?_
     exact z5T o12 o13 hl ha i hq
    ·skip
     refine zPT o10 hl ha i fun al H i=>?_
     refine ni9 o9 hl ha hc i fun al H i=>?_
     exact z5T o12 o13 hl ha i hq
 ·skip
  refine z9f ?_ ?_
  ·refine zPT o10 hl ha h fun al H i=>?_
   refine z9f ?_ ?_
   ·refine ni4 o4 hl ha hc i fun al H i=>?_
    refine z9f ?_ ?_
    ·refine ni9 o9 hl ha hc i fun al H i=>?_
     refine zPS o11 hl ha i fun al H i=>?_
     exact z5T o12 o13 hl ha i hq
    ·skip
     refine zPS o11 hl ha i fun al H i=>?_
     refine ni9 o9 hl ha hc i fun al H i=>?_
     exact z5T o12 o13 hl ha i hq
   ·skip
    refine zPS o11 hl ha i fun al H i=>?_
    refine ni4 o4 hl ha hc i fun al H i=>?_
    refine ni9 o9 hl ha hc i fun al H i=>?_
    exact z5T o12 o13 hl ha i hq
  ·skip
   refine zPS o11 hl ha h fun al H i=>?_
   refine z9f ?_ ?_
   ·refine ni4 o4 hl ha hc i fun al H i=>?_
    refine z9f ?_ ?_
    ·refine ni9 o9 hl ha hc i fun al H i=>?_
     refine zPT o10 hl ha i fun al H i=>?_
     exact z5T o12 o13 hl ha i hq
    ·skip
     refine zPT o10 hl ha i fun al H i=>?_
     refine ni9 o9 hl ha hc i fun al H i=>?_
     exact z5T o12 o13 hl ha i hq
   ·skip
    refine zPT o10 hl ha i fun al H i=>?_
    refine ni4 o4 hl ha hc i fun al H i=>?_
    refine ni9 o9 hl ha hc i fun al H i=>?_
    exact z5T o12 o13 hl ha i hq
end ni
theorem zXu {sz:Nat} {v:AV} {xs:List AV} (h:Sl sz v xs):v.shaped=true∧v.cells=[v]∧AV.scalar v=true:=by
 cases h<;>exact ⟨rfl,rfl,rfl⟩
theorem zGR {H:z0B} {x y:Nat} {a b:Blk} (hx:H[x]? =some a) (hy:H[y]? =some b) (h:a≠b):x≠y:=by
 rintro rfl
 rw [hx] at hy
 injection hy with hy
 exact h hy
def z2Y (l:List Pl):List Ex:=l.flatMap fun p=>[p.1,p.2]
theorem zCE {l:List Pl} {i:Nat} {p:Pl} (h:l[i]? =some p):z2Y (l.take (i+1))=z2Y (l.take i)++[p.1,p.2]:=by
 rw [lBA,h];simp [z2Y]
theorem zAH:∀ (a b:List Ex),z0V (a++b)=z0V a+z0V b
 | [],b=>by simp [z0V]
 | x::a,b=>by simp only [lB5,z0V,zAH a b];omega
theorem zHd (sy:Bt→Bt):∀ (l m:List Ex) (n:Nat),z5b sy n (l++m)=z5b sy n l++z5b sy (n+z0V l) m
 | [],m,n=>by simp [z5b,z0V]
 | x::l,m,n=>by
  simp only [lB5,z5b,zHd sy l m,z0V]
  rw [lBK]
def zDd (sg:List Bt) (l:List Pl):List Nd:=z5b (syW sg) 0 (z2Y l)
theorem zHE {sg:List Bt} {l:List Pl} {i:Nat} {p:Pl} (h:l[i]? =some p) :
  z7s (syW sg) (z0V (z2Y (l.take i))) p.1∈zDd sg l∧z7s (syW sg) (z0V (z2Y (l.take i))+p.1.size) p.2∈zDd sg l:=by
 have e:z2Y l=z2Y (l.take i)++([p.1,p.2]++z2Y (l.drop (i+1))):=by
  rw [←lA2,←zCE h]
  unfold z2Y
  rw [←lBZ,lDV]
 unfold zDd
 rw [e,zHd]
 simp [z5b]
theorem zJT (sg:List Bt) (l:List Pl):((z9K (zDd sg l)).map Nd.num).Nodup:=by
 unfold zDd
 rw [zAp]
 exact List.nodup_range'
theorem zNr {P:Program} {H:z0B} {al:AL} {K:KL} {Qp:AL→AV→z0B→Prop} {os:List IOper} {x y:Arg} {id:Nat} {kv a b c:AV} {sz:Nat} (hs:kv=.nilslice∨∃ kb k,kv=.sl kb 0 k sz) (hx:evL al x=.ptr id (0+0)) (hy:evL al y=kv) (hg:H[id]? =some (.cells [a,b,c])) (h:VV P os al (H.set id (.cells [kv,b,c])) K Qp) :
  VV P (⟨none,.i (.m (.store 1)),[x,y],none,none⟩::os) al H K Qp:=by
 rcases hs with rfl | ⟨kb,k,rfl⟩
 ·exact z0k .nilslice hx hy hg rfl rfl rfl h
 ·exact z0k (.sl kb 0 k sz) hx hy hg rfl rfl rfl h
theorem zNq {P:Program} {H:z0B} {al:AL} {K:KL} {Qp:AL→AV→z0B→Prop} {os:List IOper} {x y:Arg} {id:Nat} {kv a b c:AV} {sz:Nat} (hs:kv=.nilslice∨∃ kb k,kv=.sl kb 0 k sz) (hx:evL al x=.ptr id (0+1)) (hy:evL al y=kv) (hg:H[id]? =some (.cells [a,b,c])) (h:VV P os al (H.set id (.cells [a,kv,c])) K Qp) :
  VV P (⟨none,.i (.m (.store 1)),[x,y],none,none⟩::os) al H K Qp:=by
 rcases hs with rfl | ⟨kb,k,rfl⟩
 ·exact z0k .nilslice hx hy hg rfl rfl rfl h
 ·exact z0k (.sl kb 0 k sz) hx hy hg rfl rfl rfl h
theorem zNp {P:Program} {H:z0B} {al:AL} {K:KL} {Qp:AL→AV→z0B→Prop} {os:List IOper} {x y:Arg} {id:Nat} {kv a b c:AV} {sz:Nat} (hs:kv=.nilslice∨∃ kb k,kv=.sl kb 0 k sz) (hx:evL al x=.ptr id (0+2)) (hy:evL al y=kv) (hg:H[id]? =some (.cells [a,b,c])) (h:VV P os al (H.set id (.cells [a,b,kv])) K Qp) :
  VV P (⟨none,.i (.m (.store 1)),[x,y],none,none⟩::os) al H K Qp:=by
 rcases hs with rfl | ⟨kb,k,rfl⟩
 ·exact z0k .nilslice hx hy hg rfl rfl rfl h
 ·exact z0k (.sl kb 0 k sz) hx hy hg rfl rfl rfl h
section steps
variable {P:Program} {H G:z0B} {al:AL} {K:KL} {Qp:AL→AV→z0B→Prop} {os:List IOper} {d:Nat} {x y z:Arg}
theorem zCg {sz lo bytes:Nat} {v:AV} {l:List AV} {cs:List AV} {X:z0B} (hx:evL al x=v) (ho:z3v sz lo X v l) (hy:evL al y=.sl X.length 0 1 sz) (hcs:cs.length=sz) (hsc:cs.all AV.scalar=true)
  (hb:(l.length+1)*bytes≤140737488355328) (hlo:lo≤X.length)
  (h:∀ v' H',z3v sz lo H' v' (l++[.agg cs])→(∀ (j:Nat) (b:Blk),(∀ k,v≠.sl j 0 k sz)→X[j]? =some b→H'[j]? =some b)→X.length≤H'.length→VV P os ((d,v')::al) H' K Qp) :
  VV P (⟨some d,.i (.m (.append sz bytes)),[x,y],none,none⟩::os) al (X++[.cells cs]) K Qp:=by
 obtain ⟨h0,ho⟩:=ho
 have hel:∀ x∈l++[.agg cs],x.cells.length=sz:=by
  intro x hx
  rcases lBF.1 hx with hx | hx
  ·exact h0 x hx
  ·rw [lA1] at hx;subst hx;exact hcs
 rcases ho with ⟨rfl,rfl⟩ | ⟨id,rfl,h3,h4,h5⟩
 ·refine z3z (m:=1) (ys:=cs) hx (by rw [hy];exact z1y (by omega)) (by omega) hsc (by simpa using hb) ?_
  refine h _ _ ⟨hel,.inr ⟨_,rfl,?_,by rw [lAH];omega,by simp⟩⟩ (fun j b hj hb=>z0G (z0G hb)) (by rw [lAH,lAH];omega)
  rw [zDE]
  simp [z0j,AV.cells]
 ·have hlt:=(lAA.1 h3).1
  have hfl:(z0j l).length=l.length*sz:=z0y h0
  refine z4L (m:=1) (ys:=cs) hx (z0G h3) (by omega) (by rw [hy];exact z1y (by omega)) hsc hb ?_
  refine h _ _ ⟨hel,.inr ⟨(X++[Blk.cells cs]).length,by rw [show (l++[AV.agg cs]).length=l.length+1 by simp],?_,by rw [lAH];omega,by simp⟩⟩ (fun j b hj hb=>?_) (by rw [lAH,lCK,lAH];omega)
  ·rw [lAJ (by simp)]
   simp only [lCK,lBJ,lA0]
   rw [lBL,←hfl,lAW,z5x]
   simp [z0j,AV.cells]
  ·have:=(lAA.1 hb).1
   have hne:id≠j:=fun e=>hj l.length (by rw [e])
   rw [lAN (by simp;omega),lA7,if_neg hne]
   exact z0G hb
theorem z3v.lt {sz lo:Nat} {X:z0B} {v:AV} {l:List AV} (h:z3v sz lo X v l) {j:Nat} (hj:X.length≤j):∀ k,v≠.sl j 0 k sz:=by
 intro k e
 rcases h.2 with ⟨_,h⟩ | ⟨kb,h,h2,_⟩
 ·rw [e] at h;cases h
 ·rw [e] at h
  injection h with h
  have:=(lAA.1 h2).1
  omega
end steps
section fun_
variable {D:Nat→Bt→Bool} {aid mid b9 b n:Nat} {H:z0B} {m:Nd}
theorem zZW (hg:GoodN D m) (ha:H[aid]? =some (CB mid n)) (hne:aid≠mid) (h9:H[b9]? =some (.cells [.ptr aid 0])) (hb:H[b]? =some (.cells [z1j m])) (n9:b9≠mid) (nb:b≠mid):zQK D aid mid H (.clo (.func 49) [] [.ptr b9 0,.ptr b 0]) (z2u (D m.num)) :=
 ⟨49,_,rfl,zYK.hasBody,fun H' w hw hin=>a62 (zJG hg) hw ⟨⟨n,hin.old hne ha⟩,hne,hin.self⟩ (hin.old n9 h9) (hin.old nb hb) (z5K m)⟩
theorem zZV (hg:GoodN D m) (ha:H[aid]? =some (CB mid n)) (hne:aid≠mid) (h9:H[b9]? =some (.cells [.ptr aid 0])) (hb:H[b]? =some (.cells [z1j m])) (n9:b9≠mid) (nb:b≠mid):zQK D aid mid H (.clo (.func 51) [] [.ptr b9 0,.ptr b 0]) (z0g (D m.num)) :=
 ⟨51,_,rfl,zYJ.hasBody,fun H' w hw hin=>a64 (zJG hg) hw ⟨⟨n,hin.old hne ha⟩,hne,hin.self⟩ (hin.old n9 h9) (hin.old nb hb) (z5K m)⟩
end fun_
structure Clos (g:FuncId) (b9 lo:Nat) (H:z0B) (cs:List AV) (ms:List Nd):Prop where
 len:cs.length=ms.length
 get:∀ (k:Nat) (m:Nd),ms[k]? =some m→∃ b,cs[k]? =some (.clo (.func g) [] [.ptr b9 0,.ptr b 0])∧H[b]? =some (.cells [z1j m])∧lo≤b
theorem Clos.mono {g:FuncId} {b9 lo:Nat} {X Y:z0B} {cs:List AV} {ms:List Nd} (h:Clos g b9 lo X cs ms) (hp:∀ (j:Nat) (m:Nd),lo≤j→X[j]? =some (.cells [z1j m])→Y[j]? =some (.cells [z1j m])):Clos g b9 lo Y cs ms :=
 ⟨h.len,fun k m hm=>by
  obtain ⟨b,h1,h2,h3⟩:=h.get k m hm
  exact ⟨b,h1,hp b m h3 h2,h3⟩⟩
theorem Clos.all {g:FuncId} {b9 lo:Nat} {X:z0B} {cs:List AV} {ms:List Nd} (h:Clos g b9 lo X cs ms):∀ c∈cs,∃ b,c=.clo (.func g) [] [.ptr b9 0,.ptr b 0]:=by
 intro c hc
 obtain ⟨k,hk,rfl⟩:=lBR.1 hc
 obtain ⟨m,hm⟩:=z0M (l:=ms) (i:=k) (by rw [←h.len];exact hk)
 obtain ⟨b,h1,_⟩:=h.get k m hm
 rw [lAG hk] at h1
 injection h1 with h1
 exact ⟨b,h1⟩
theorem Clos.sc {g:FuncId} {b9 lo:Nat} {X:z0B} {cs:List AV} {ms:List Nd} (h:Clos g b9 lo X cs ms):cs.all AV.scalar=true:=by
 rw [lAX]
 intro c hc
 obtain ⟨b,rfl⟩:=h.all c hc
 rfl
theorem Clos.snoc {g:FuncId} {b9 lo b:Nat} {X:z0B} {cs:List AV} {ms:List Nd} {m:Nd} (h:Clos g b9 lo X cs ms) (hb:X[b]? =some (.cells [z1j m])) (hl:lo≤b):Clos g b9 lo X (cs++[.clo (.func g) [] [.ptr b9 0,.ptr b 0]]) (ms++[m]):=by
 refine ⟨by simp [h.len],fun k m' hm=>?_⟩
 rcases Nat.lt_trichotomy k ms.length with hk | hk | hk
 ·rw [lAN hk] at hm
  obtain ⟨b',h1,h2,h3⟩:=h.get k m' hm
  exact ⟨b',by rw [lAN (by rw [h.len];exact hk)];exact h1,h2,h3⟩
 ·subst hk
  rw [lAJ (lAL _),lBJ] at hm
  simp only [lA0,Option.some.injEq] at hm
  subst hm
  refine ⟨b,?_,hb,hl⟩
  rw [lAJ (by rw [h.len];exact lAL _),h.len,lBJ];rfl
 ·rw [lAJ (by omega)] at hm
  have:([m]:List Nd)[k-ms.length]? =none:=lBG (by simp;omega)
  rw [this] at hm;cases hm
theorem zNE {H:z0B} {b k:Nat} {m:Nd} {cs:List AV} {g:FuncId} {b9:Nat} (hb:H[b]? =some (.cells [z1j m])) (hk:H[k]? =some (.cells cs)) (hc:∀ c∈cs,∃ b,c=.clo (.func g) [] [.ptr b9 0,.ptr b 0]):b≠k:=by
 refine zGR hb hk fun e=>?_
 injection e with e
 obtain ⟨x,hx⟩:=hc (z1j m) (by rw [←e];exact List.mem_singleton_self _)
 obtain ⟨cs,h⟩:=zLz m
 rw [h] at hx;cases hx
theorem z1D.mono' {lo:Nat} {X Y:z0B} {kv:AV} {l:List AV} (h:z1D lo X kv l) (hk:∀ (j k:Nat) (b:Blk),kv=.sl j 0 k 1→X[j]? =some b→Y[j]? =some b):z1D lo Y kv l:=by
 rcases h with h | ⟨kb,h1,h2,h3⟩
 ·exact .inl h
 ·exact .inr ⟨kb,h1,hk _ _ _ h1 h2,h3⟩
theorem zJJ {g g':FuncId} {b9 lo:Nat} {Z Z1:z0B} {av bv:AV} {cs ds:List AV} (hg:g≠g') (ha:z1D lo Z av cs) (h1:∀ c∈cs,∃ b,c=.clo (.func g) [] [.ptr b9 0,.ptr b 0]) (hb:z1D lo Z bv ds) (h2:∀ c∈ds,∃ b,c=.clo (.func g') [] [.ptr b9 0,.ptr b 0])
  (hpres:∀ (j:Nat) (b:Blk),(∀ k,av≠.sl j 0 k 1)→Z[j]? =some b→Z1[j]? =some b) :
  (∀ (j:Nat) (b:Blk),j<lo→Z[j]? =some b→Z1[j]? =some b)∧(∀ (j:Nat) (m:Nd),Z[j]? =some (.cells [z1j m])→Z1[j]? =some (.cells [z1j m]))∧z1D lo Z1 bv ds:=by
 refine ⟨fun j b hj h=>hpres j b (ha.ne hj) h,fun j m h=>hpres j _ ?_ h,hb.mono' fun j k b e h=>hpres j b ?_ h⟩
 ·rcases ha with ⟨_,e⟩ | ⟨ka,e,g1,_,_⟩
  ·intro k e';rw [e] at e';cases e'
  ·intro k e'
   rw [e] at e'
   injection e' with e'
   exact zNE h g1 h1 e'.symm
 ·subst e
  rcases hb with ⟨_,e⟩ | ⟨kb,e,q1,_,q2⟩
  ·cases e
  ·injection e with e
   subst e
   rcases ha with ⟨_,e⟩ | ⟨ka,e,g1,_,g2⟩
   ·intro k e';rw [e] at e';cases e'
   ·intro k' e'
    rw [e] at e'
    injection e' with e'
    subst e'
    rw [g1] at q1
    injection q1 with q1
    injection q1 with q1
    cases cs with
    | nil=>exact g2 rfl
    | cons c cs =>
     obtain ⟨x,hx⟩:=h1 c (by simp)
     obtain ⟨y,hy⟩:=h2 c (by rw [←q1];simp)
     rw [hx] at hy
     injection hy with hy
     injection hy with hy
     exact hg hy
theorem zFs {P:Program} {H:z0B} {al:AL} {K:KL} {Qp:AL→AV→z0B→Prop} {os:List IOper} {x y:Arg} {z:AV} {a o:Nat} (hx:evL al x=.ptr H.length 0) (hy:evL al y=.ptr a o) (h:VV P os al (H++[.cells [.ptr a o]]) K Qp) :
  VV P (⟨none,.i (.m (.store 1)),[x,y],none,none⟩::os) al (H++[.cells [z]]) K Qp :=
 z0k (.ptr a o) hx hy z0K rfl rfl (by rw [lBC _ _ (lAL _),lBJ];rfl) h
def zAb (sg:List Bt) (l:List Pl) (i:Nat):List Nd:=(List.range i).map fun k=>z7s (syW sg) (z0V (z2Y (l.take k))) (l.getD k (z5V,z5V)).1
def z5q (sg:List Bt) (l:List Pl) (i:Nat):List Nd:=(List.range i).map fun k=>z7s (syW sg) (z0V (z2Y (l.take k))+(l.getD k (z5V,z5V)).1.size) (l.getD k (z5V,z5V)).2
theorem zJv {sg:List Bt} {l:List Pl} {i:Nat} {p:Pl} (h:l[i]? =some p):zAb sg l (i+1)=zAb sg l i++[z7s (syW sg) (z0V (z2Y (l.take i))) p.1]:=by
 unfold zAb
 rw [lCS,lBP,lA6,lCZ,lAB,h];rfl
theorem zGE {sg:List Bt} {l:List Pl} {i:Nat} {p:Pl} (h:l[i]? =some p):z5q sg l (i+1)=z5q sg l i++[z7s (syW sg) (z0V (z2Y (l.take i))+p.1.size) p.2]:=by
 unfold z5q
 rw [lCS,lBP,lA6,lCZ,lAB,h];rfl
theorem zMK {sg:List Bt} {l:List Pl} {i n:Nat} {p:Pl} (h:l[i]? =some p) (hi:i<n):(zAb sg l n)[i]? =some (z7s (syW sg) (z0V (z2Y (l.take i))) p.1):=by
 unfold zAb
 rw [lAM,lCM hi,lBH,lAB,h];rfl
theorem zJg {sg:List Bt} {l:List Pl} {i n:Nat} {p:Pl} (h:l[i]? =some p) (hi:i<n):(z5q sg l n)[i]? =some (z7s (syW sg) (z0V (z2Y (l.take i))+p.1.size) p.2):=by
 unfold z5q
 rw [lAM,lCM hi,lBH,lAB,h];rfl
theorem zFb {g:FuncId} {b9:Nat} {cs:List AV} (h:∀ c∈cs,∃ b,c=.clo (.func g) [] [.ptr b9 0,.ptr b 0]):∀ c∈cs,c.cells=[c]:=fun c hc=>by
 obtain ⟨b,rfl⟩:=h c hc
 rfl
structure LH (H:z0B) (l3 l5 kp m:Nat) (sv:AV) (psA:List AV) (sg:List Bt) (L:List Pl) (i:Nat) (av bv:AV) (cs ds:List AV) (X:z0B):Prop where
 old:∀ (j:Nat) (b:Blk),H[j]? =some b→X[j]? =some b
 g3:X[l3]? =some (.cells [sv])
 g5:X[l5]? =some (.cells [.sl kp 0 psA.length 2,av,bv])
 gp:X[kp]? =some (.cells (z0j psA))
 gm:X[m]? =some (.map [] 0)
 ga:X[m+1]? =some (CB m (z0V (z2Y (L.take i))))
 g9:X[m+2]? =some (.cells [.ptr (m+1) 0])
 ka:z1D (m+3) X av cs
 kb:z1D (m+3) X bv ds
 ca:Clos 49 (m+2) (m+3) X cs (zAb sg L i)
 cb:Clos 51 (m+2) (m+3) X ds (z5q sg L i)
 len:m+3≤X.length
def z3u (sg:List Bt) (p:Pr):Bt × Bt:=(p.a.l.map (mu sg),p.b.l.map (mu sg))
def z8F (sg:List Bt) (l:List Pl):List (Bt→Bool):=l.map fun p=>z2u (z5c (syW sg) p.1)
def z3A (sg:List Bt) (l:List Pl):List (Bt→Bool):=l.map fun p=>z0g (z5c (syW sg) p.2)
structure RuOk (sg:List Bt) (r:Ru):Prop where
 ne:r.pairs≠[]
 np:r.pairs.length≤1000
 pa:∀ p∈r.pairs,p.a.l.length≤1000∧p.b.l.length≤1000∧(∀ t∈p.a.l,t∈sg)∧∀ t∈p.b.l,t∈sg
 nl:r.places.length≤1000
 sz:z0V (z2Y (z0d r))≤1000000
 ok:∀ p∈z0d r,okE p.1∧okE p.2∧(∀ t∈z1V p.1,t∈sg)∧∀ t∈z1V p.2,t∈sg
 form:∀ m∈z9K (zDd sg (z0d r)),m.form
end Go.Ab
