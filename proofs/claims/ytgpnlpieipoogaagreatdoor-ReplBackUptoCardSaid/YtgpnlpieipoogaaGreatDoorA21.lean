/- Part 21 of the proof. -/
import Derived.Test.YtgpnlpieipoogaaGreatDoorA18
set_option linter.unusedVariables false
set_option linter.unusedSimpArgs false
namespace Go.Ab
variable {P:Program} {H G:Heap} {al:AL} {Q Q':PL} {next:KL} {K:KL} {Qp:AL→AV→Heap→Prop} {os:List IOper} {d:Nat} {x y z:Arg} {v u:AV}
theorem z0L {t:Nat}:look ((t,v)::al) t=v:=by
 show (bif Nat.beq t t then v else look al t)=v
 rw [show Nat.beq t t=true from Nat.beq_refl t];rfl
theorem z0J {a t:Nat} (h:Nat.beq a t=false) (h2:look al t=v):look ((a,u)::al) t=v:=by
 show (bif Nat.beq a t then u else look al t)=v
 rw [h];exact h2
theorem z0K {t:Nat}:look [] t=.top:=rfl
theorem ev_t {t:Nat} (h:look al t=v):evL al (.tmp t)=v:=h
theorem ev_c:evL al (.const v)=v:=rfl
theorem evs_nil:evsL al []=[]:=rfl
theorem evs_cons {a:Arg} {l:List Arg} {vs:List AV} (h:evL al a=v) (h2:evsL al l=vs):evsL al (a::l)=v::vs:=by subst h;subst h2;rfl
inductive Sl (sz:Nat):AV→List AV→Prop
 | nil:Sl sz .nilslice []
 | list (xs:List AV):Sl sz (.list sz xs) xs
theorem st_op {op:DOp} {as_:List Arg} {vs:List AV} (ha:evsL al as_=vs) (hv:dsem op vs=some v) (h:VV P os ((d,v)::al) H K Qp) :
  VV P (⟨some d,.i (.d op),as_,none,none⟩::os) al H K Qp:=by subst ha;exact z2Z hv h
theorem z2M {s:List UInt8} (hx:evL al x=.str s) (h:VV P os ((d,.int .i64 s.length)::al) H K Qp):VV P (⟨some d,.i (.d .lenStr),[x],none,none⟩::os) al H K Qp :=
 z2Z (v:=.int .i64 s.length) (by simp only [evsL,hx,dsem]) h
theorem z4B {sz:Nat} {w:AV} {xs:List AV} (hx:evL al x=w) (hs:Sl sz w xs) (h:VV P os ((d,.int .i64 xs.length)::al) H K Qp):VV P (⟨some d,.i (.d .len),[x],none,none⟩::os) al H K Qp:=by
 refine z2Z (v:=.int .i64 xs.length) ?_ h
 cases hs<;>simp only [evsL,hx,dsem]<;>rfl
theorem z3Z {sz i:Nat} {w:AV} {xs:List AV} (hx:evL al x=w) (hs:Sl sz w xs) (hy:evL al y=.int .i64 i) (hc:xs[i]? =some u)
  (h:VV P os ((d,.cptr u.cells)::al) H K Qp):VV P (⟨some d,.i (.d (.idxAddr sz)),[x,y],none,none⟩::os) al H K Qp:=by
 cases hs with
 | nil=>simp at hc
 | list=>exact st_idxList hx hy hc h
theorem z4P {κ:IntKind} {a b:Int} (hx:evL al x=.int κ a) (hy:evL al y=.int κ b) (h:VV P os ((d,.bool (decide (a<b)))::al) H K Qp) :
  VV P (⟨some d,.i (.d (.bin .lss)),[x,y],none,none⟩::os) al H K Qp:=z2Z (v:=.bool (decide (a<b))) (by simp only [evsL,hx,hy,dsem,dbin,if_true,dbinInt]) h
theorem z4Q {κ:IntKind} {a b:Int} (hx:evL al x=.int κ a) (hy:evL al y=.int κ b) (h:VV P os ((d,.bool (decide (a≤b)))::al) H K Qp) :
  VV P (⟨some d,.i (.d (.bin .leq)),[x,y],none,none⟩::os) al H K Qp:=z2Z (v:=.bool (decide (a≤b))) (by simp only [evsL,hx,hy,dsem,dbin,if_true,dbinInt]) h
theorem z4T {κ:IntKind} {a b:Int} (hx:evL al x=.int κ a) (hy:evL al y=.int κ b) (h:VV P os ((d,.bool (decide (a>b)))::al) H K Qp) :
  VV P (⟨some d,.i (.d (.bin .gtr)),[x,y],none,none⟩::os) al H K Qp:=z2Z (v:=.bool (decide (a>b))) (by simp only [evsL,hx,hy,dsem,dbin,if_true,dbinInt]) h
theorem z4U {κ:IntKind} {a b:Int} (hx:evL al x=.int κ a) (hy:evL al y=.int κ b) (h:VV P os ((d,.bool (decide (a≥b)))::al) H K Qp) :
  VV P (⟨some d,.i (.d (.bin .geq)),[x,y],none,none⟩::os) al H K Qp:=z2Z (v:=.bool (decide (a≥b))) (by simp only [evsL,hx,hy,dsem,dbin,if_true,dbinInt]) h
theorem z4W {κ:IntKind} {a b:Int} (hx:evL al x=.int κ a) (hy:evL al y=.int κ b) (h:VV P os ((d,.bool (a==b))::al) H K Qp) :
  VV P (⟨some d,.i (.d (.bin .eql)),[x,y],none,none⟩::os) al H K Qp:=z2Z (v:=.bool (a==b)) (by simp only [evsL,hx,hy,dsem,dbin,if_true,dbinInt]) h
theorem z4M {κ:IntKind} {a b:Int} (hx:evL al x=.int κ a) (hy:evL al y=.int κ b) (h:VV P os ((d,.bool (a != b))::al) H K Qp) :
  VV P (⟨some d,.i (.d (.bin .neq)),[x,y],none,none⟩::os) al H K Qp:=z2Z (v:=.bool (a != b)) (by simp only [evsL,hx,hy,dsem,dbin,if_true,dbinInt]) h
theorem z4V {a b:List UInt8} (hx:evL al x=.str a) (hy:evL al y=.str b) (h:VV P os ((d,.bool (a==b))::al) H K Qp) :
  VV P (⟨some d,.i (.d (.bin .eql)),[x,y],none,none⟩::os) al H K Qp:=z2Z (v:=.bool (a==b)) (by simp only [evsL,hx,hy,dsem,dbin,dbinStr]) h
theorem z4L {a b:List UInt8} (hx:evL al x=.str a) (hy:evL al y=.str b) (h:VV P os ((d,.bool (!(a==b)))::al) H K Qp) :
  VV P (⟨some d,.i (.d (.bin .neq)),[x,y],none,none⟩::os) al H K Qp:=z2Z (v:=.bool (!(a==b))) (by simp only [evsL,hx,hy,dsem,dbin,dbinStr]) h
theorem z4N {a b:List UInt8} (hx:evL al x=.str a) (hy:evL al y=.str b) (h:VV P os ((d,.bool (Op.bytesLess a b))::al) H K Qp) :
  VV P (⟨some d,.i (.d (.bin .lss)),[x,y],none,none⟩::os) al H K Qp:=z2Z (v:=.bool (Op.bytesLess a b)) (by simp only [evsL,hx,hy,dsem,dbin,dbinStr]) h
theorem z4S {a b:List UInt8} (hx:evL al x=.str a) (hy:evL al y=.str b) (h:VV P os ((d,.bool (!(Op.bytesLess a b||a==b)))::al) H K Qp) :
  VV P (⟨some d,.i (.d (.bin .gtr)),[x,y],none,none⟩::os) al H K Qp:=z2Z (v:=.bool (!(Op.bytesLess a b||a==b))) (by simp only [evsL,hx,hy,dsem,dbin,dbinStr]) h
theorem z4K {b:Bool} (hx:evL al x=.bool b) (h:VV P os ((d,.bool (!b))::al) H K Qp) :
  VV P (⟨some d,.i (.d (.un .not)),[x],none,none⟩::os) al H K Qp:=z2Z (v:=.bool (!b)) (by simp only [evsL,hx,dsem,dun]) h
theorem z4E (hx:evL al x=.bool true) (hy:evL al y=v) (h:VV P os ((d,v)::al) H K Qp):VV P (⟨some d,.i (.d .pick),[x,y,z],none,none⟩::os) al H K Qp :=
 z2Z (v:=v) (by simp only [evsL,hx,hy,dsem,if_true]) h
theorem z4F (hx:evL al x=.bool false) (hy:evL al z=v) (h:VV P os ((d,v)::al) H K Qp):VV P (⟨some d,.i (.d .pick),[x,y,z],none,none⟩::os) al H K Qp :=
 z2Z (v:=v) (by simp only [evsL,hx,hy,dsem,Bool.false_eq_true,if_false]) h
theorem z3C {off:Nat} {k:Option Nat} {cs:List AV} (hx:evL al x=.agg cs) (hv:dpart k cs off=some v) (h:VV P os ((d,v)::al) H K Qp) :
  VV P (⟨some d,.i (.d (.field off k)),[x],none,none⟩::os) al H K Qp:=z2Z (v:=v) (by simp only [evsL,hx,dsem,hv]) h
theorem z2B {i:Nat} {vs:List AV} (hx:evL al x=.tuple vs) (hv:vs[i]? =some v) (h:VV P os ((d,v)::al) H K Qp) :
  VV P (⟨some d,.i (.d (.extract i)),[x],none,none⟩::os) al H K Qp:=z2Z (v:=v) (by simp only [evsL,hx,dsem,hv]) h
theorem z2P {off:Nat} {cs cs':List AV} (hx:evL al x=.cptr cs) (hc:cs.drop off=cs') (h:VV P os ((d,.cptr cs')::al) H K Qp) :
  VV P (⟨some d,.i (.d (.fieldAddr off)),[x],none,none⟩::os) al H K Qp:=z2Z (v:=.cptr cs') (by simp only [evsL,hx,dsem,hc]) h
theorem z1M {off id o:Nat} (hx:evL al x=.ptr id o) (h:VV P os ((d,.ptr id (o+off))::al) H K Qp) :
  VV P (⟨some d,.i (.d (.fieldAddr off)),[x],none,none⟩::os) al H K Qp:=z2Z (v:=.ptr id (o+off)) (by simp only [evsL,hx,dsem]) h
theorem st_slStr {lo hi:Bool} {s:List UInt8} {as_:List Arg} {vs:List AV} {a b:Nat} (hx:evL al x=.str s) (ha:evsL al as_=vs) (hb:bounds s.length lo hi vs=some (a,b))
  (h:VV P os ((d,.str ((s.drop a).take (b-a)))::al) H K Qp):VV P (⟨some d,.i (.d (.sliceStr lo hi)),x::as_,none,none⟩::os) al H K Qp:=by
 refine z2Z (v:=.str ((s.drop a).take (b-a))) ?_ h
 simp only [evsL,hx,ha,dsem,hb]
theorem z0R {zero:List AV} {ps:List (Nat × Nat)} {as_:List Arg} {vs out:List AV} (ha:evsL al as_=vs) (hf:fillA zero ps vs=some out) (h:VV P os ((d,.agg out)::al) H K Qp) :
  VV P (⟨some d,.i (.d (.build zero ps)),as_,none,none⟩::os) al H K Qp:=z2Z (v:=.agg out) (by simp only [ha,dsem,hf,Option.map_some]) h
theorem z3R {sz i:Nat} {w:AV} {xs cs:List AV} (hx:evL al x=w) (hs:Sl sz w xs) (hy:evL al y=.int .i64 i) (hc:xs[i]? =some (.agg cs))
  (h:VV P os ((d,.cptr cs)::al) H K Qp):VV P (⟨some d,.i (.d (.idxAddr sz)),[x,y],none,none⟩::os) al H K Qp:=z3Z hx hs hy hc h
theorem z3Q {sz i:Nat} {w:AV} {xs:List AV} {s:List UInt8} (hx:evL al x=w) (hs:Sl sz w xs) (hy:evL al y=.int .i64 i) (hc:xs[i]? =some (.str s))
  (h:VV P os ((d,.cptr [.str s])::al) H K Qp):VV P (⟨some d,.i (.d (.idxAddr sz)),[x,y],none,none⟩::os) al H K Qp:=z3Z hx hs hy hc h
theorem dpart_all {k:Nat} {cs:List AV} (h:cs.length=k):dpart (some k) cs 0=some (.agg cs):=by
 subst h
 simp [dpart]
theorem z2L {k:Nat} {cs:List AV} (hx:evL al x=.cptr cs) (hk:cs.length=k) (h:VV P os ((d,.agg cs)::al) H K Qp) :
  VV P (⟨some d,.i (.m (.load (some k))),[x],none,none⟩::os) al H K Qp:=z2X hx (dpart_all hk) h
theorem z2K {k n:Nat} {cs:List AV} (hx:evL al x=.ptr (H.length+n) 0) (hg:G[n]? =some (.cells cs)) (hk:cs.length=k)
  (h:VV P os ((d,.agg cs)::al) (H++G) K Qp):VV P (⟨some d,.i (.m (.load (some k))),[x],none,none⟩::os) al (H++G) K Qp:=z2W hx hg (dpart_all hk) h
theorem z3B {k id:Nat} {cs:List AV} (hx:evL al x=.ptr id 0) (hg:H[id]? =some (.cells cs)) (hk:cs.length=k)
  (h:VV P os ((d,.agg cs)::al) H K Qp):VV P (⟨some d,.i (.m (.load (some k))),[x],none,none⟩::os) al H K Qp:=z1T hx hg (dpart_all hk) h
theorem setAt_all {cs ws:List AV} (h:ws.length=cs.length):setAt cs 0 ws=ws:=by simp [setAt,h]
theorem z1J {k n:Nat} {cs ws:List AV} {G':Heap} (hx:evL al x=.ptr (H.length+n) 0) (hy:evL al y=.agg ws) (hg:G[n]? =some (.cells cs))
  (hw:ws.length=k) (hl:cs.length=k) (hs:ws.all AV.scalar=true) (hG:G.set n (.cells ws)=G')
  (h:VV P os al (H++G') K Qp):VV P (⟨none,.i (.m (.store k)),[x,y],none,none⟩::os) al (H++G) K Qp :=
 z1X (.agg ws) hx hy hg (by simp [AV.shaped,AV.cells,hw,hl];simpa using hs) (setAt_all (by simp [AV.cells,hw,hl])) hG h
theorem st_maxn {a b:Nat} (hx:evL al x=.int .i64 a) (hy:evL al y=.int .i64 b) (h:VV P os ((d,.int .i64 (max a b:Nat))::al) H K Qp) :
  VV P (⟨some d,.i (.d .max),[x,y],none,none⟩::os) al H K Qp:=by
 refine z2Z (v:=.int .i64 (max a b:Nat)) ?_ h
 simp only [evsL,hx,hy,dsem]
 congr 2
 split<;>omega
theorem st_noT {g:Nat} {op:AOp} {as_:List Arg} (hg:look al g=.bool true) (h1:VV P os ((d,.tuple [])::al) H K Qp):VV P (⟨some d,op,as_,some (g,false),none⟩::os) al H K Qp:=st_no hg rfl h1
theorem st_noF {g:Nat} {op:AOp} {as_:List Arg} (hg:look al g=.bool false) (h1:VV P os ((d,.tuple [])::al) H K Qp):VV P (⟨some d,op,as_,some (g,true),none⟩::os) al H K Qp:=st_no hg rfl h1
theorem st_callS {f:FuncId} {as_:List Arg} {args args' cs:List AV} {n:Nat} {G':Heap} (ha:evsL al as_=args) (hg:G[n]? =some (.cells cs)) (hl:args.length=args'.length)
  (hs:∀ i,SealR (H.length+n) cs (args.getD i .top) (args'.getD i .top)) (hG:G.set n .dead=G') (hc:ACall P f args' (H++G') (Just (H++G') v)) (h:VV P os ((d,v)::al) (H++G') K Qp) :
  VV P (⟨some d,.callF f,as_,none,none⟩::os) al (H++G) K Qp:=by
 subst hG
 refine z1W (R:=Just (H++G.set n .dead) v) ha (ACall.sealArgs (id:=H.length+n) (by rw [hp_new];exact hg) hl hs (by rw [set_new];exact hc)) ?_ ?_
 ·rintro u H' ⟨e,rfl⟩;injection e with e;subst e;exact h
 ·rintro u H' ⟨e,rfl⟩;cases e
theorem seal1 {id:Nat} {cs:List AV} {u u':AV} (h:SealR id cs u u'):∀ i,SealR id cs ([u].getD i .top) ([u'].getD i .top)
 | 0=>by simpa using h
 | i+1=>by simpa using SealR.refl _
theorem sealStrs (id:Nat) (l:List (List UInt8)):SealR id (l.map .str) (.sl id 0 l.length 1) (.list 1 (l.map .str)):=by
 have hfl:flat (l.map AV.str)=l.map AV.str:=by
  induction l with
  | nil=>rfl
  | cons a l ih=>show [AV.str a]++flat (l.map AV.str)=_;rw [ih];rfl
 refine .sl 0 l.length 1 (l.map .str) (by simp) (fun x hx=>?_) ?_ (by simp)
 ·obtain ⟨a,_,rfl⟩:=List.mem_map.1 hx;rfl
 ·rw [hfl,List.drop_zero,Nat.mul_one]
  exact (List.take_of_length_le (by simp)).symm
theorem z3Y {ks:List Nat} (al':AL) (H':Heap) (h:VV P os al H (fun a h=>keepL a ks=al'∧h=H') Qp) (h2:Q .normal al' H'):VV P os al H (fun a h=>Q .normal (keepL a ks) h) Qp :=
 h.mono (fun a h q=>by rw [q.1,q.2];exact h2) (fun _ _ _ q=>q)
theorem vv_cutE {ks:List Nat} (al':AL) (S:Heap→Prop) (h:VV P os al H (fun a h=>keepL a ks=al'∧S h) Qp) (h2:∀ h,S h→Q .normal al' h):VV P os al H (fun a h=>Q .normal (keepL a ks) h) Qp :=
 h.mono (fun a h q=>by rw [q.1];exact h2 h q.2) (fun _ _ _ q=>q)
theorem z5J {ks:List Nat} {al':AL} {S:Heap→Prop} (h:keepL al ks=al') (h2:S H):VV P [] al H (fun a h=>keepL a ks=al'∧S h) Qp:=⟨⟨h,h2⟩⟩
theorem z0Z {ks:List Nat} {al':AL} {H':Heap} (h:keepL al ks=al') (h2:H=H'):VV P [] al H (fun a h=>keepL a ks=al'∧h=H') Qp:=⟨⟨h,h2⟩⟩
end Go.Ab
