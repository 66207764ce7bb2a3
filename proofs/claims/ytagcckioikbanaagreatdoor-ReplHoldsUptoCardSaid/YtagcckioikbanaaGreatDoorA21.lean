/- Part 21 of the proof. -/
import Derived.Test.YtagcckioikbanaaGreatDoorA18
set_option linter.unusedVariables false
set_option linter.unusedSimpArgs false
namespace Go.Ab
variable {P:Program} {H G:z0B} {al:AL} {Q Q':PL} {next:KL} {K:KL} {Qp:AL→AV→z0B→Prop} {os:List IOper} {d:Nat} {x y z:Arg} {v u:AV}
theorem z0Y {t:Nat}:z1e ((t,v)::al) t=v:=by
 show (bif Nat.beq t t then v else z1e al t)=v
 rw [show Nat.beq t t=true from Nat.beq_refl t];rfl
theorem z0Q {a t:Nat} (h:Nat.beq a t=false) (h2:z1e al t=v):z1e ((a,u)::al) t=v:=by
 show (bif Nat.beq a t then u else z1e al t)=v
 rw [h];exact h2
theorem z3E {t:Nat} (h:z1e al t=v):evL al (.tmp t)=v:=h
theorem z3F:evL al (.const v)=v:=rfl
theorem zNh:z1G al []=[]:=rfl
theorem zJz {a:Arg} {l:List Arg} {vs:List AV} (h:evL al a=v) (h2:z1G al l=vs):z1G al (a::l)=v::vs:=by subst h;subst h2;rfl
inductive Sl (sz:Nat):AV→List AV→Prop
 | nil:Sl sz .nilslice []
 | list (xs:List AV):Sl sz (.list sz xs) xs
theorem z5C {s:List UInt8} (hx:evL al x=.str s) (h:VV P os ((d,.int .i64 s.length)::al) H K Qp):VV P (⟨some d,.i (.d .lenStr),[x],none,none⟩::os) al H K Qp :=
 z2K (v:=.int .i64 s.length) (by simp only [z1G,hx,z1t]) h
theorem zCc {sz:Nat} {w:AV} {xs:List AV} (hx:evL al x=w) (hs:Sl sz w xs) (h:VV P os ((d,.int .i64 xs.length)::al) H K Qp):VV P (⟨some d,.i (.d .len),[x],none,none⟩::os) al H K Qp:=by
 refine z2K (v:=.int .i64 xs.length) ?_ h
 cases hs<;>simp only [z1G,hx,z1t]<;>rfl
theorem z9m {sz i:Nat} {w:AV} {xs:List AV} (hx:evL al x=w) (hs:Sl sz w xs) (hy:evL al y=.int .i64 i) (hc:xs[i]? =some u)
  (h:VV P os ((d,.cptr u.cells)::al) H K Qp):VV P (⟨some d,.i (.d (.idxAddr sz)),[x,y],none,none⟩::os) al H K Qp:=by
 cases hs with
 | nil=>simp at hc
 | list=>exact zKe hx hy hc h
theorem zCa {κ:IntKind} {a b:Int} (hx:evL al x=.int κ a) (hy:evL al y=.int κ b) (h:VV P os ((d,.bool (decide (a<b)))::al) H K Qp) :
  VV P (⟨some d,.i (.d (.bin .lss)),[x,y],none,none⟩::os) al H K Qp:=z2K (v:=.bool (decide (a<b))) (by simp only [z1G,hx,hy,z1t,zEV,if_true,z4S]) h
theorem zCb {κ:IntKind} {a b:Int} (hx:evL al x=.int κ a) (hy:evL al y=.int κ b) (h:VV P os ((d,.bool (decide (a≤b)))::al) H K Qp) :
  VV P (⟨some d,.i (.d (.bin .leq)),[x,y],none,none⟩::os) al H K Qp:=z2K (v:=.bool (decide (a≤b))) (by simp only [z1G,hx,hy,z1t,zEV,if_true,z4S]) h
theorem zCf {κ:IntKind} {a b:Int} (hx:evL al x=.int κ a) (hy:evL al y=.int κ b) (h:VV P os ((d,.bool (decide (a>b)))::al) H K Qp) :
  VV P (⟨some d,.i (.d (.bin .gtr)),[x,y],none,none⟩::os) al H K Qp:=z2K (v:=.bool (decide (a>b))) (by simp only [z1G,hx,hy,z1t,zEV,if_true,z4S]) h
theorem zCg {κ:IntKind} {a b:Int} (hx:evL al x=.int κ a) (hy:evL al y=.int κ b) (h:VV P os ((d,.bool (decide (a≥b)))::al) H K Qp) :
  VV P (⟨some d,.i (.d (.bin .geq)),[x,y],none,none⟩::os) al H K Qp:=z2K (v:=.bool (decide (a≥b))) (by simp only [z1G,hx,hy,z1t,zEV,if_true,z4S]) h
theorem zCj {κ:IntKind} {a b:Int} (hx:evL al x=.int κ a) (hy:evL al y=.int κ b) (h:VV P os ((d,.bool (a==b))::al) H K Qp) :
  VV P (⟨some d,.i (.d (.bin .eql)),[x,y],none,none⟩::os) al H K Qp:=z2K (v:=.bool (a==b)) (by simp only [z1G,hx,hy,z1t,zEV,if_true,z4S]) h
theorem zCX {κ:IntKind} {a b:Int} (hx:evL al x=.int κ a) (hy:evL al y=.int κ b) (h:VV P os ((d,.bool (a != b))::al) H K Qp) :
  VV P (⟨some d,.i (.d (.bin .neq)),[x,y],none,none⟩::os) al H K Qp:=z2K (v:=.bool (a != b)) (by simp only [z1G,hx,hy,z1t,zEV,if_true,z4S]) h
theorem zCh {a b:List UInt8} (hx:evL al x=.str a) (hy:evL al y=.str b) (h:VV P os ((d,.bool (a==b))::al) H K Qp) :
  VV P (⟨some d,.i (.d (.bin .eql)),[x,y],none,none⟩::os) al H K Qp:=z2K (v:=.bool (a==b)) (by simp only [z1G,hx,hy,z1t,zEV,z6d]) h
theorem zCW {a b:List UInt8} (hx:evL al x=.str a) (hy:evL al y=.str b) (h:VV P os ((d,.bool (!(a==b)))::al) H K Qp) :
  VV P (⟨some d,.i (.d (.bin .neq)),[x,y],none,none⟩::os) al H K Qp:=z2K (v:=.bool (!(a==b))) (by simp only [z1G,hx,hy,z1t,zEV,z6d]) h
theorem zCZ {a b:List UInt8} (hx:evL al x=.str a) (hy:evL al y=.str b) (h:VV P os ((d,.bool (Op.bytesLess a b))::al) H K Qp) :
  VV P (⟨some d,.i (.d (.bin .lss)),[x,y],none,none⟩::os) al H K Qp:=z2K (v:=.bool (Op.bytesLess a b)) (by simp only [z1G,hx,hy,z1t,zEV,z6d]) h
theorem zCe {a b:List UInt8} (hx:evL al x=.str a) (hy:evL al y=.str b) (h:VV P os ((d,.bool (!(Op.bytesLess a b||a==b)))::al) H K Qp) :
  VV P (⟨some d,.i (.d (.bin .gtr)),[x,y],none,none⟩::os) al H K Qp:=z2K (v:=.bool (!(Op.bytesLess a b||a==b))) (by simp only [z1G,hx,hy,z1t,zEV,z6d]) h
theorem zCU {b:Bool} (hx:evL al x=.bool b) (h:VV P os ((d,.bool (!b))::al) H K Qp) :
  VV P (⟨some d,.i (.d (.un .not)),[x],none,none⟩::os) al H K Qp:=z2K (v:=.bool (!b)) (by simp only [z1G,hx,z1t,dun]) h
theorem z8H (hx:evL al x=.bool true) (hy:evL al y=v) (h:VV P os ((d,v)::al) H K Qp):VV P (⟨some d,.i (.d .pick),[x,y,z],none,none⟩::os) al H K Qp :=
 z2K (v:=v) (by simp only [z1G,hx,hy,z1t,if_true]) h
theorem z8J (hx:evL al x=.bool false) (hy:evL al z=v) (h:VV P os ((d,v)::al) H K Qp):VV P (⟨some d,.i (.d .pick),[x,y,z],none,none⟩::os) al H K Qp :=
 z2K (v:=v) (by simp only [z1G,hx,hy,z1t,lAX,if_false]) h
theorem z4C {i:Nat} {vs:List AV} (hx:evL al x=.tuple vs) (hv:vs[i]? =some v) (h:VV P os ((d,v)::al) H K Qp) :
  VV P (⟨some d,.i (.d (.extract i)),[x],none,none⟩::os) al H K Qp:=z2K (v:=v) (by simp only [z1G,hx,z1t,hv]) h
theorem z5F {off:Nat} {cs cs':List AV} (hx:evL al x=.cptr cs) (hc:cs.drop off=cs') (h:VV P os ((d,.cptr cs')::al) H K Qp) :
  VV P (⟨some d,.i (.d (.fieldAddr off)),[x],none,none⟩::os) al H K Qp:=z2K (v:=.cptr cs') (by simp only [z1G,hx,z1t,hc]) h
theorem z5E {off id o:Nat} (hx:evL al x=.ptr id o) (h:VV P os ((d,.ptr id (o+off))::al) H K Qp) :
  VV P (⟨some d,.i (.d (.fieldAddr off)),[x],none,none⟩::os) al H K Qp:=z2K (v:=.ptr id (o+off)) (by simp only [z1G,hx,z1t]) h
theorem z5e {lo hi:Bool} {s:List UInt8} {as_:List Arg} {vs:List AV} {a b:Nat} (hx:evL al x=.str s) (ha:z1G al as_=vs) (hb:z2R s.length lo hi vs=some (a,b))
  (h:VV P os ((d,.str ((s.drop a).take (b-a)))::al) H K Qp):VV P (⟨some d,.i (.d (.sliceStr lo hi)),x::as_,none,none⟩::os) al H K Qp:=by
 refine z2K (v:=.str ((s.drop a).take (b-a))) ?_ h
 simp only [z1G,hx,ha,z1t,hb]
theorem z0s {zero:List AV} {ps:List (Nat × Nat)} {as_:List Arg} {vs out:List AV} (ha:z1G al as_=vs) (hf:z4T zero ps vs=some out) (h:VV P os ((d,.agg out)::al) H K Qp) :
  VV P (⟨some d,.i (.d (.build zero ps)),as_,none,none⟩::os) al H K Qp:=z2K (v:=.agg out) (by simp only [ha,z1t,hf,lBN]) h
theorem z9H {sz i:Nat} {w:AV} {xs cs:List AV} (hx:evL al x=w) (hs:Sl sz w xs) (hy:evL al y=.int .i64 i) (hc:xs[i]? =some (.agg cs))
  (h:VV P os ((d,.cptr cs)::al) H K Qp):VV P (⟨some d,.i (.d (.idxAddr sz)),[x,y],none,none⟩::os) al H K Qp:=z9m hx hs hy hc h
theorem z9G {sz i:Nat} {w:AV} {xs:List AV} {s:List UInt8} (hx:evL al x=w) (hs:Sl sz w xs) (hy:evL al y=.int .i64 i) (hc:xs[i]? =some (.str s))
  (h:VV P os ((d,.cptr [.str s])::al) H K Qp):VV P (⟨some d,.i (.d (.idxAddr sz)),[x,y],none,none⟩::os) al H K Qp:=z9m hx hs hy hc h
theorem zBn {k:Nat} {cs:List AV} (h:cs.length=k):z2w (some k) cs 0=some (.agg cs):=by
 subst h
 simp [z2w]
theorem z5B {k:Nat} {cs:List AV} (hx:evL al x=.cptr cs) (hk:cs.length=k) (h:VV P os ((d,.agg cs)::al) H K Qp) :
  VV P (⟨some d,.i (.m (.load (some k))),[x],none,none⟩::os) al H K Qp:=z2W hx (zBn hk) h
theorem z5A {k n:Nat} {cs:List AV} (hx:evL al x=.ptr (H.length+n) 0) (hg:G[n]? =some (.cells cs)) (hk:cs.length=k)
  (h:VV P os ((d,.agg cs)::al) (H++G) K Qp):VV P (⟨some d,.i (.m (.load (some k))),[x],none,none⟩::os) al (H++G) K Qp:=z5f hx hg (zBn hk) h
theorem z6p {k id:Nat} {cs:List AV} (hx:evL al x=.ptr id 0) (hg:H[id]? =some (.cells cs)) (hk:cs.length=k)
  (h:VV P os ((d,.agg cs)::al) H K Qp):VV P (⟨some d,.i (.m (.load (some k))),[x],none,none⟩::os) al H K Qp:=z1s hx hg (zBn hk) h
theorem zFJ {cs ws:List AV} (h:ws.length=cs.length):z3B cs 0 ws=ws:=by simp [z3B,h]
theorem z1v {k n:Nat} {cs ws:List AV} {G':z0B} (hx:evL al x=.ptr (H.length+n) 0) (hy:evL al y=.agg ws) (hg:G[n]? =some (.cells cs))
  (hw:ws.length=k) (hl:cs.length=k) (hs:ws.all AV.scalar=true) (hG:G.set n (.cells ws)=G')
  (h:VV P os al (H++G') K Qp):VV P (⟨none,.i (.m (.store k)),[x,y],none,none⟩::os) al (H++G) K Qp :=
 z3a (.agg ws) hx hy hg (by simp [AV.shaped,AV.cells,hw,hl];simpa using hs) (zFJ (by simp [AV.cells,hw,hl])) hG h
theorem zMN {a b:Nat} (hx:evL al x=.int .i64 a) (hy:evL al y=.int .i64 b) (h:VV P os ((d,.int .i64 (max a b:Nat))::al) H K Qp) :
  VV P (⟨some d,.i (.d .max),[x,y],none,none⟩::os) al H K Qp:=by
 refine z2K (v:=.int .i64 (max a b:Nat)) ?_ h
 simp only [z1G,hx,hy,z1t]
 congr 2
 split<;>omega
theorem zFA {g:Nat} {op:AOp} {as_:List Arg} (hg:z1e al g=.bool true) (h1:VV P os ((d,.tuple [])::al) H K Qp):VV P (⟨some d,op,as_,some (g,false),none⟩::os) al H K Qp:=zPu hg rfl h1
theorem zFB {g:Nat} {op:AOp} {as_:List Arg} (hg:z1e al g=.bool false) (h1:VV P os ((d,.tuple [])::al) H K Qp):VV P (⟨some d,op,as_,some (g,true),none⟩::os) al H K Qp:=zPu hg rfl h1
theorem zDe {f:FuncId} {as_:List Arg} {args args' cs:List AV} {n:Nat} {G':z0B} (ha:z1G al as_=args) (hg:G[n]? =some (.cells cs)) (hl:args.length=args'.length)
  (hs:∀ i,SealR (H.length+n) cs (args.getD i .top) (args'.getD i .top)) (hG:G.set n .dead=G') (hc:z0C P f args' (H++G') (z1D (H++G') v)) (h:VV P os ((d,v)::al) (H++G') K Qp) :
  VV P (⟨some d,.callF f,as_,none,none⟩::os) al (H++G) K Qp:=by
 subst hG
 refine z0L (R:=z1D (H++G.set n .dead) v) ha (z0C.sealArgs (id:=H.length+n) (by rw [z1S];exact hg) hl hs (by rw [zDk];exact hc)) ?_ ?_
 ·rintro u H' ⟨e,rfl⟩;injection e with e;subst e;exact h
 ·rintro u H' ⟨e,rfl⟩;cases e
theorem zSH {id:Nat} {cs:List AV} {u u':AV} (h:SealR id cs u u'):∀ i,SealR id cs ([u].getD i .top) ([u'].getD i .top)
 | 0=>by simpa using h
 | i+1=>by simpa using SealR.refl _
theorem zAP (id:Nat) (l:List (List UInt8)):SealR id (l.map .str) (.sl id 0 l.length 1) (.list 1 (l.map .str)):=by
 have hfl:z0d (l.map AV.str)=l.map AV.str:=by
  induction l with
  | nil=>rfl
  | cons a l ih=>show [AV.str a]++z0d (l.map AV.str)=_;rw [ih];rfl
 refine .sl 0 l.length 1 (l.map .str) (by simp) (fun x hx=>?_) ?_ (by simp)
 ·obtain ⟨a,_,rfl⟩:=lBB.1 hx;rfl
 ·rw [hfl,lBP,lCB]
  exact (lAQ (by simp)).symm
theorem zJB {ks:List Nat} (al':AL) (H':z0B) (h:VV P os al H (fun a h=>z1g a ks=al'∧h=H') Qp) (h2:Q .normal al' H'):VV P os al H (fun a h=>Q .normal (z1g a ks) h) Qp :=
 h.mono (fun a h q=>by rw [q.1,q.2];exact h2) (fun _ _ _ q=>q)
theorem zGr {ks:List Nat} (al':AL) (S:z0B→Prop) (h:VV P os al H (fun a h=>z1g a ks=al'∧S h) Qp) (h2:∀ h,S h→Q .normal al' h):VV P os al H (fun a h=>Q .normal (z1g a ks) h) Qp :=
 h.mono (fun a h q=>by rw [q.1];exact h2 h q.2) (fun _ _ _ q=>q)
theorem z2T {ks:List Nat} {al':AL} {S:z0B→Prop} (h:z1g al ks=al') (h2:S H):VV P [] al H (fun a h=>z1g a ks=al'∧S h) Qp:=⟨⟨h,h2⟩⟩
theorem z4u {ks:List Nat} {al':AL} {H':z0B} (h:z1g al ks=al') (h2:H=H'):VV P [] al H (fun a h=>z1g a ks=al'∧h=H') Qp:=⟨⟨h,h2⟩⟩
end Go.Ab
