/- Part 21 of the proof. -/
import Derived.Test.YtagcckioikbanaaGreatDoorM18
set_option linter.unusedVariables false
set_option linter.unusedSimpArgs false
namespace Go.Ab
variable {P:Program} {H G:z0B} {al:AL} {Q Q':PL} {next:KL} {K:KL} {Qp:AL→AV→z0B→Prop} {os:List IOper} {d:Nat} {x y z:Arg} {v u:AV}
theorem z0S {t:Nat}:z2V ((t,v)::al) t=v:=by
 show (bif Nat.beq t t then v else z2V al t)=v
 rw [show Nat.beq t t=true from Nat.beq_refl t];rfl
theorem z0P {a t:Nat} (h:Nat.beq a t=false) (h2:z2V al t=v):z2V ((a,u)::al) t=v:=by
 show (bif Nat.beq a t then u else z2V al t)=v
 rw [h];exact h2
theorem z2j {t:Nat} (h:z2V al t=v):evL al (.tmp t)=v:=h
theorem z2k:evL al (.const v)=v:=rfl
theorem zMg:z0u al []=[]:=rfl
theorem zJA {a:Arg} {l:List Arg} {vs:List AV} (h:evL al a=v) (h2:z0u al l=vs):z0u al (a::l)=v::vs:=by subst h;subst h2;rfl
inductive Sl (sz:Nat):AV→List AV→Prop
 | nil:Sl sz .nilslice []
 | list (xs:List AV):Sl sz (.list sz xs) xs
theorem z4d {s:List UInt8} (hx:evL al x=.str s) (h:VV P os ((d,.int .i64 s.length)::al) H K Qp):VV P (⟨some d,.i (.d .lenStr),[x],none,none⟩::os) al H K Qp :=
 z2S (v:=.int .i64 s.length) (by simp only [z0u,hx,z1W]) h
theorem zBf {sz:Nat} {w:AV} {xs:List AV} (hx:evL al x=w) (hs:Sl sz w xs) (h:VV P os ((d,.int .i64 xs.length)::al) H K Qp):VV P (⟨some d,.i (.d .len),[x],none,none⟩::os) al H K Qp:=by
 refine z2S (v:=.int .i64 xs.length) ?_ h
 cases hs<;>simp only [z0u,hx,z1W]<;>rfl
theorem z8v {sz i:Nat} {w:AV} {xs:List AV} (hx:evL al x=w) (hs:Sl sz w xs) (hy:evL al y=.int .i64 i) (hc:xs[i]? =some u)
  (h:VV P os ((d,.cptr u.cells)::al) H K Qp):VV P (⟨some d,.i (.d (.idxAddr sz)),[x,y],none,none⟩::os) al H K Qp:=by
 cases hs with
 | nil=>simp at hc
 | list=>exact zJX hx hy hc h
theorem zBd {κ:IntKind} {a b:Int} (hx:evL al x=.int κ a) (hy:evL al y=.int κ b) (h:VV P os ((d,.bool (decide (a<b)))::al) H K Qp) :
  VV P (⟨some d,.i (.d (.bin .lss)),[x,y],none,none⟩::os) al H K Qp:=z2S (v:=.bool (decide (a<b))) (by simp only [z0u,hx,hy,z1W,zDV,if_true,z3q]) h
theorem zBe {κ:IntKind} {a b:Int} (hx:evL al x=.int κ a) (hy:evL al y=.int κ b) (h:VV P os ((d,.bool (decide (a≤b)))::al) H K Qp) :
  VV P (⟨some d,.i (.d (.bin .leq)),[x,y],none,none⟩::os) al H K Qp:=z2S (v:=.bool (decide (a≤b))) (by simp only [z0u,hx,hy,z1W,zDV,if_true,z3q]) h
theorem zBj {κ:IntKind} {a b:Int} (hx:evL al x=.int κ a) (hy:evL al y=.int κ b) (h:VV P os ((d,.bool (decide (a>b)))::al) H K Qp) :
  VV P (⟨some d,.i (.d (.bin .gtr)),[x,y],none,none⟩::os) al H K Qp:=z2S (v:=.bool (decide (a>b))) (by simp only [z0u,hx,hy,z1W,zDV,if_true,z3q]) h
theorem zBk {κ:IntKind} {a b:Int} (hx:evL al x=.int κ a) (hy:evL al y=.int κ b) (h:VV P os ((d,.bool (decide (a≥b)))::al) H K Qp) :
  VV P (⟨some d,.i (.d (.bin .geq)),[x,y],none,none⟩::os) al H K Qp:=z2S (v:=.bool (decide (a≥b))) (by simp only [z0u,hx,hy,z1W,zDV,if_true,z3q]) h
theorem zBn {κ:IntKind} {a b:Int} (hx:evL al x=.int κ a) (hy:evL al y=.int κ b) (h:VV P os ((d,.bool (a==b))::al) H K Qp) :
  VV P (⟨some d,.i (.d (.bin .eql)),[x,y],none,none⟩::os) al H K Qp:=z2S (v:=.bool (a==b)) (by simp only [z0u,hx,hy,z1W,zDV,if_true,z3q]) h
theorem zBb {κ:IntKind} {a b:Int} (hx:evL al x=.int κ a) (hy:evL al y=.int κ b) (h:VV P os ((d,.bool (a != b))::al) H K Qp) :
  VV P (⟨some d,.i (.d (.bin .neq)),[x,y],none,none⟩::os) al H K Qp:=z2S (v:=.bool (a != b)) (by simp only [z0u,hx,hy,z1W,zDV,if_true,z3q]) h
theorem zBm {a b:List UInt8} (hx:evL al x=.str a) (hy:evL al y=.str b) (h:VV P os ((d,.bool (a==b))::al) H K Qp) :
  VV P (⟨some d,.i (.d (.bin .eql)),[x,y],none,none⟩::os) al H K Qp:=z2S (v:=.bool (a==b)) (by simp only [z0u,hx,hy,z1W,zDV,z6A]) h
theorem zBa {a b:List UInt8} (hx:evL al x=.str a) (hy:evL al y=.str b) (h:VV P os ((d,.bool (!(a==b)))::al) H K Qp) :
  VV P (⟨some d,.i (.d (.bin .neq)),[x,y],none,none⟩::os) al H K Qp:=z2S (v:=.bool (!(a==b))) (by simp only [z0u,hx,hy,z1W,zDV,z6A]) h
theorem zBc {a b:List UInt8} (hx:evL al x=.str a) (hy:evL al y=.str b) (h:VV P os ((d,.bool (Op.bytesLess a b))::al) H K Qp) :
  VV P (⟨some d,.i (.d (.bin .lss)),[x,y],none,none⟩::os) al H K Qp:=z2S (v:=.bool (Op.bytesLess a b)) (by simp only [z0u,hx,hy,z1W,zDV,z6A]) h
theorem zBh {a b:List UInt8} (hx:evL al x=.str a) (hy:evL al y=.str b) (h:VV P os ((d,.bool (!(Op.bytesLess a b||a==b)))::al) H K Qp) :
  VV P (⟨some d,.i (.d (.bin .gtr)),[x,y],none,none⟩::os) al H K Qp:=z2S (v:=.bool (!(Op.bytesLess a b||a==b))) (by simp only [z0u,hx,hy,z1W,zDV,z6A]) h
theorem zBY {b:Bool} (hx:evL al x=.bool b) (h:VV P os ((d,.bool (!b))::al) H K Qp) :
  VV P (⟨some d,.i (.d (.un .not)),[x],none,none⟩::os) al H K Qp:=z2S (v:=.bool (!b)) (by simp only [z0u,hx,z1W,dun]) h
theorem z7a (hx:evL al x=.bool true) (hy:evL al y=v) (h:VV P os ((d,v)::al) H K Qp):VV P (⟨some d,.i (.d .pick),[x,y,z],none,none⟩::os) al H K Qp :=
 z2S (v:=v) (by simp only [z0u,hx,hy,z1W,if_true]) h
theorem z7b (hx:evL al x=.bool false) (hy:evL al z=v) (h:VV P os ((d,v)::al) H K Qp):VV P (⟨some d,.i (.d .pick),[x,y,z],none,none⟩::os) al H K Qp :=
 z2S (v:=v) (by simp only [z0u,hx,hy,z1W,lAV,if_false]) h
theorem z3b {i:Nat} {vs:List AV} (hx:evL al x=.tuple vs) (hv:vs[i]? =some v) (h:VV P os ((d,v)::al) H K Qp) :
  VV P (⟨some d,.i (.d (.extract i)),[x],none,none⟩::os) al H K Qp:=z2S (v:=v) (by simp only [z0u,hx,z1W,hv]) h
theorem z4g {off:Nat} {cs cs':List AV} (hx:evL al x=.cptr cs) (hc:cs.drop off=cs') (h:VV P os ((d,.cptr cs')::al) H K Qp) :
  VV P (⟨some d,.i (.d (.fieldAddr off)),[x],none,none⟩::os) al H K Qp:=z2S (v:=.cptr cs') (by simp only [z0u,hx,z1W,hc]) h
theorem z4f {off id o:Nat} (hx:evL al x=.ptr id o) (h:VV P os ((d,.ptr id (o+off))::al) H K Qp) :
  VV P (⟨some d,.i (.d (.fieldAddr off)),[x],none,none⟩::os) al H K Qp:=z2S (v:=.ptr id (o+off)) (by simp only [z0u,hx,z1W]) h
theorem z7Z {lo hi:Bool} {s:List UInt8} {as_:List Arg} {vs:List AV} {a b:Nat} (hx:evL al x=.str s) (ha:z0u al as_=vs) (hb:z2f s.length lo hi vs=some (a,b))
  (h:VV P os ((d,.str ((s.drop a).take (b-a)))::al) H K Qp):VV P (⟨some d,.i (.d (.sliceStr lo hi)),x::as_,none,none⟩::os) al H K Qp:=by
 refine z2S (v:=.str ((s.drop a).take (b-a))) ?_ h
 simp only [z0u,hx,ha,z1W,hb]
theorem z1w {zero:List AV} {ps:List (Nat × Nat)} {as_:List Arg} {vs out:List AV} (ha:z0u al as_=vs) (hf:z5M zero ps vs=some out) (h:VV P os ((d,.agg out)::al) H K Qp) :
  VV P (⟨some d,.i (.d (.build zero ps)),as_,none,none⟩::os) al H K Qp:=z2S (v:=.agg out) (by simp only [ha,z1W,hf,lBH]) h
theorem z8W {sz i:Nat} {w:AV} {xs cs:List AV} (hx:evL al x=w) (hs:Sl sz w xs) (hy:evL al y=.int .i64 i) (hc:xs[i]? =some (.agg cs))
  (h:VV P os ((d,.cptr cs)::al) H K Qp):VV P (⟨some d,.i (.d (.idxAddr sz)),[x,y],none,none⟩::os) al H K Qp:=z8v hx hs hy hc h
theorem z8V {sz i:Nat} {w:AV} {xs:List AV} {s:List UInt8} (hx:evL al x=w) (hs:Sl sz w xs) (hy:evL al y=.int .i64 i) (hc:xs[i]? =some (.str s))
  (h:VV P os ((d,.cptr [.str s])::al) H K Qp):VV P (⟨some d,.i (.d (.idxAddr sz)),[x,y],none,none⟩::os) al H K Qp:=z8v hx hs hy hc h
theorem zAw {k:Nat} {cs:List AV} (h:cs.length=k):z3L (some k) cs 0=some (.agg cs):=by
 subst h
 simp [z3L]
theorem z4c {k:Nat} {cs:List AV} (hx:evL al x=.cptr cs) (hk:cs.length=k) (h:VV P os ((d,.agg cs)::al) H K Qp) :
  VV P (⟨some d,.i (.m (.load (some k))),[x],none,none⟩::os) al H K Qp:=z2J hx (zAw hk) h
theorem z4b {k n:Nat} {cs:List AV} (hx:evL al x=.ptr (H.length+n) 0) (hg:G[n]? =some (.cells cs)) (hk:cs.length=k)
  (h:VV P os ((d,.agg cs)::al) (H++G) K Qp):VV P (⟨some d,.i (.m (.load (some k))),[x],none,none⟩::os) al (H++G) K Qp:=z5E hx hg (zAw hk) h
theorem z6L {k id:Nat} {cs:List AV} (hx:evL al x=.ptr id 0) (hg:H[id]? =some (.cells cs)) (hk:cs.length=k)
  (h:VV P os ((d,.agg cs)::al) H K Qp):VV P (⟨some d,.i (.m (.load (some k))),[x],none,none⟩::os) al H K Qp:=z2a hx hg (zAw hk) h
theorem zEF {cs ws:List AV} (h:ws.length=cs.length):z4m cs 0 ws=ws:=by simp [z4m,h]
theorem z1k {k n:Nat} {cs ws:List AV} {G':z0B} (hx:evL al x=.ptr (H.length+n) 0) (hy:evL al y=.agg ws) (hg:G[n]? =some (.cells cs))
  (hw:ws.length=k) (hl:cs.length=k) (hs:ws.all AV.scalar=true) (hG:G.set n (.cells ws)=G')
  (h:VV P os al (H++G') K Qp):VV P (⟨none,.i (.m (.store k)),[x,y],none,none⟩::os) al (H++G) K Qp :=
 z3H (.agg ws) hx hy hg (by simp [AV.shaped,AV.cells,hw,hl];simpa using hs) (zEF (by simp [AV.cells,hw,hl])) hG h
theorem zLH {a b:Nat} (hx:evL al x=.int .i64 a) (hy:evL al y=.int .i64 b) (h:VV P os ((d,.int .i64 (max a b:Nat))::al) H K Qp) :
  VV P (⟨some d,.i (.d .max),[x,y],none,none⟩::os) al H K Qp:=by
 refine z2S (v:=.int .i64 (max a b:Nat)) ?_ h
 simp only [z0u,hx,hy,z1W]
 congr 2
 split<;>omega
theorem zDw {g:Nat} {op:AOp} {as_:List Arg} (hg:z2V al g=.bool true) (h1:VV P os ((d,.tuple [])::al) H K Qp):VV P (⟨some d,op,as_,some (g,false),none⟩::os) al H K Qp:=zNt hg rfl h1
theorem zDx {g:Nat} {op:AOp} {as_:List Arg} (hg:z2V al g=.bool false) (h1:VV P os ((d,.tuple [])::al) H K Qp):VV P (⟨some d,op,as_,some (g,true),none⟩::os) al H K Qp:=zNt hg rfl h1
theorem zCf {f:FuncId} {as_:List Arg} {args args' cs:List AV} {n:Nat} {G':z0B} (ha:z0u al as_=args) (hg:G[n]? =some (.cells cs)) (hl:args.length=args'.length)
  (hs:∀ i,SealR (H.length+n) cs (args.getD i .top) (args'.getD i .top)) (hG:G.set n .dead=G') (hc:z0D P f args' (H++G') (z1A (H++G') v)) (h:VV P os ((d,v)::al) (H++G') K Qp) :
  VV P (⟨some d,.callF f,as_,none,none⟩::os) al (H++G) K Qp:=by
 subst hG
 refine z0L (R:=z1A (H++G.set n .dead) v) ha (z0D.sealArgs (id:=H.length+n) (by rw [z1R];exact hg) hl hs (by rw [zCn];exact hc)) ?_ ?_
 ·rintro u H' ⟨e,rfl⟩;injection e with e;subst e;exact h
 ·rintro u H' ⟨e,rfl⟩;cases e
theorem zRK {id:Nat} {cs:List AV} {u u':AV} (h:SealR id cs u u'):∀ i,SealR id cs ([u].getD i .top) ([u'].getD i .top)
 | 0=>by simpa using h
 | i+1=>by simpa using SealR.refl _
theorem z9T (id:Nat) (l:List (List UInt8)):SealR id (l.map .str) (.sl id 0 l.length 1) (.list 1 (l.map .str)):=by
 have hfl:z0j (l.map AV.str)=l.map AV.str:=by
  induction l with
  | nil=>rfl
  | cons a l ih=>show [AV.str a]++z0j (l.map AV.str)=_;rw [ih];rfl
 refine .sl 0 l.length 1 (l.map .str) (by simp) (fun x hx=>?_) ?_ (by simp)
 ·obtain ⟨a,_,rfl⟩:=lA4.1 hx;rfl
 ·rw [hfl,lBL,lCA]
  exact (lAS (by simp)).symm
theorem zGy {ks:List Nat} (al':AL) (H':z0B) (h:VV P os al H (fun a h=>z1d a ks=al'∧h=H') Qp) (h2:Q .normal al' H'):VV P os al H (fun a h=>Q .normal (z1d a ks) h) Qp :=
 h.mono (fun a h q=>by rw [q.1,q.2];exact h2) (fun _ _ _ q=>q)
theorem zFm {ks:List Nat} (al':AL) (S:z0B→Prop) (h:VV P os al H (fun a h=>z1d a ks=al'∧S h) Qp) (h2:∀ h,S h→Q .normal al' h):VV P os al H (fun a h=>Q .normal (z1d a ks) h) Qp :=
 h.mono (fun a h q=>by rw [q.1];exact h2 h q.2) (fun _ _ _ q=>q)
theorem z2D {ks:List Nat} {al':AL} {S:z0B→Prop} (h:z1d al ks=al') (h2:S H):VV P [] al H (fun a h=>z1d a ks=al'∧S h) Qp:=⟨⟨h,h2⟩⟩
theorem z4V {ks:List Nat} {al':AL} {H':z0B} (h:z1d al ks=al') (h2:H=H'):VV P [] al H (fun a h=>z1d a ks=al'∧h=H') Qp:=⟨⟨h,h2⟩⟩
end Go.Ab
