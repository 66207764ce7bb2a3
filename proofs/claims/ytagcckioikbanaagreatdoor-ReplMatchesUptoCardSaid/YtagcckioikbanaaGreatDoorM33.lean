/- Part 33 of the proof. -/
import Derived.Test.YtagcckioikbanaaGreatDoorM27
import Derived.Test.YtagcckioikbanaaGreatDoorM32
set_option linter.unusedVariables false
set_option linter.unusedSimpArgs false
namespace Go.Ab
open Go
set_option maxRecDepth 100000
set_option maxHeartbeats 8000000
theorem zAa:∀ {ks:List (List UInt8)} {n:Nat} {e:AV × AV × Nat},e∈z2c n ks→∃ i k,ks[i]? =some k∧e=(.str k,.bool true,n+i)
 | [],n,e,h=>by cases h
 | k::ks,n,e,h=>by
  simp only [z2c,lAT] at h
  rcases h with rfl | h
  ·exact ⟨0,k,rfl,rfl⟩
  ·obtain ⟨i,k',h1,h2⟩:=zAa h
   exact ⟨i+1,k',by simpa using h1,by rw [h2];congr 2;omega⟩
theorem zFU:∀ {ks:List (List UInt8)} {n i:Nat} {k:List UInt8},ks[i]? =some k→(.str k,.bool true,n+i)∈z2c n ks
 | [],n,i,k,h=>by simp at h
 | k'::ks,n,0,k,h=>by simp at h;subst h;simp [z2c]
 | k'::ks,n,i+1,k,h=>by
  have:=zFU (n:=n+1) (show ks[i]? =some k by simpa using h)
  simp only [z2c,lAT]
  right;rw [show n+(i+1)=n+1+i by omega];exact this
theorem zCD:∀ {ks:List (List UInt8)} {n i:Nat} {k:List UInt8},ks[i]? =some k→(z2c n ks).find? (fun e=>e.2.2==n+i)=some (.str k,.bool true,n+i)
 | [],n,i,k,h=>by simp at h
 | k'::ks,n,0,k,h=>by simp at h;subst h;simp [z2c]
 | k'::ks,n,i+1,k,h=>by
  have:=zCD (n:=n+1) (show ks[i]? =some k by simpa using h)
  simp only [z2c]
  rw [List.find?_cons_of_neg (by simp)]
  rw [show n+(i+1)=n+1+i by omega];exact this
section steps
variable {P:Program} {H G:z0B} {al:AL} {K:KL} {Qp:AL→AV→z0B→Prop} {os:List IOper} {d:Nat} {x y:Arg}
theorem zFx {it M:Nat} {ks:List (List UInt8)} {seen:List Nat} (hx:evL al x=.ptr it 0) (hi:H[it]? =some (.iter (some M) ks.length seen ks.length)) (hm:H[M]? =some (MB ks))
  (hdone:(∀ i,i<ks.length→i∈seen)→VV P os ((d,.tuple [.bool false])::al) H K Qp)
  (hnext:∀ i k,ks[i]? =some k→i∉seen→VV P os ((d,.tuple [.bool true,.str k,.bool true])::al) (H.set it (.iter (some M) ks.length (seen++[i]) ks.length)) K Qp) :
  VV P (⟨some d,.next,[x],none,none⟩::os) al H K Qp:=by
 refine ⟨?_⟩
 show (match zGN (z0u al [x]) H with | some l=>∀ x∈l,z6v P os (z9H al (some d) x.1) x.2 K Qp | none=>False)
 have e1:z0u al [x]=[.ptr it 0]:=by show [evL al x]=_;rw [hx]
 have e2:z8y H it=some (some M,ks.length,seen,ks.length):=by simp only [z8y,hi]
 have e3:z3j H M=some (z2c 0 ks,ks.length):=by simp only [z3j,hm,MB]
 have hall:(!seen.isEmpty && !(z2c 0 ks).isEmpty&&(z2c 0 ks).all (fun e=>decide (e.2.2≥ks.length)))=false:=by
  cases ks with
  | nil=>simp [z2c]
  | cons k ks=>simp [z2c]
 have hnew:((z2c 0 ks).filter fun e=>!seen.contains e.2.2).filter (fun e=>decide (e.2.2≥ks.length))=[]:=by
  rw [List.filter_eq_nil_iff]
  intro e he
  obtain ⟨i,k,h1,rfl⟩:=zAa (lCC.1 he).1
  have:=(lAA.1 h1).1
  simp;omega
 rw [e1]
 simp only [zGN,e2,e3,hall,lAV,if_false,hnew,lAK]
 intro z hz
 rcases lBF.1 hz with hz | hz
 ·split at hz
  ·rename_i hemp
   rw [lA1] at hz
   subst hz
   refine (hdone fun i hi'=>?_).1
   rw [lC2,List.filter_eq_nil_iff] at hemp
   obtain ⟨k,hk⟩:=z0M hi'
   refine Classical.byContradiction fun hns=>?_
   have hme:=zFU (n:=0) hk
   have:=hemp _ (lCC.2 ⟨hme,by simpa using hns⟩)
   simp at this;omega
  ·cases hz
 ·obtain ⟨e,he,rfl⟩:=lA4.1 hz
  have he':=(lCC.1 he).1
  obtain ⟨h1,h2⟩:=lCC.1 he'
  obtain ⟨i,k,h3,rfl⟩:=zAa h1
  have:=(hnext i k h3 (by simpa using h2)).1
  simp only [lBN]
  exact this
theorem zDy {it M i:Nat} {ks:List (List UInt8)} {seen:List Nat} {k:List UInt8} (hx:evL al x=.ptr it 0) (hi:H[it]? =some (.iter (some M) ks.length (seen++[i]) ks.length)) (hm:H[M]? =some (MB ks))
  (hk:ks[i]? =some k) (h:VV P os ((d,.tuple [.str k,.bool true])::al) H K Qp):VV P (⟨some d,.i (.n .entry),[x],none,none⟩::os) al H K Qp:=by
 refine z8X (H':=H) (v:=.tuple [.str k,.bool true]) ?_ h
 have e1:z0u al [x]=[.ptr it 0]:=by show [evL al x]=_;rw [hx]
 have e2:z8y H it=some (some M,ks.length,seen++[i],ks.length):=by simp only [z8y,hi]
 have e3:z3j H M=some (z2c 0 ks,ks.length):=by simp only [z3j,hm,MB]
 have e4:=zCD (n:=0) hk
 rw [lBN] at e4
 show z9X .entry (z0u al [x]) H H.length=_
 rw [e1]
 simp only [z9X,e2,e3,List.getLast?_concat,if_true,e4]
theorem zNs {M:Nat} {ks:List (List UInt8)} (hx:evL al x=.map M) (hm:H[M]? =some (MB ks)) (h:VV P os ((d,.ptr H.length 0)::al) (H++[.iter (some M) ks.length [] ks.length]) K Qp) :
  VV P (⟨some d,.i (.n .range),[x],none,none⟩::os) al H K Qp:=by
 refine z8X ?_ h
 have e1:z0u al [x]=[.map M]:=by show [evL al x]=_;rw [hx]
 have e3:z3j H M=some (z2c 0 ks,ks.length):=by simp only [z3j,hm,MB]
 show z9X .range (z0u al [x]) H H.length=_
 rw [e1]
 simp only [z9X,e3]
 unfold put;rw [if_neg (by omega)]
end steps
theorem z9G:∀ (l ks:List (List UInt8)),ks.Nodup→(z0p ks l).Nodup
 | [],ks,h=>h
 | s::l,ks,h=>by
  show (z0p (zNY ks s) l).Nodup
  refine z9G l _ ?_
  unfold zNY
  split
  ·exact h
  ·rename_i hn
   rw [List.nodup_append]
   refine ⟨h,by simp,?_⟩
   intro a ha b hb e
   rw [lA1] at hb
   subst hb;subst e;exact hn ha
theorem z8s:∀ (l ks:List (List UInt8)) (x:List UInt8),x∈z0p ks l↔x∈ks∨x∈l
 | [],ks,x=>by simp [z0p]
 | s::l,ks,x=>by
  show x∈z0p (zNY ks s) l↔_
  rw [z8s l]
  unfold zNY
  split
  ·rename_i h
   simp only [lAT]
   constructor
   ·rintro (h1 | h1)
    ·exact .inl h1
    ·exact .inr (.inr h1)
   ·rintro (h1 | rfl | h1)
    ·exact .inl h1
    ·exact .inl h
    ·exact .inr h1
  ·simp only [lBF,lAT,lA5,or_false]
   constructor
   ·rintro ((h1 | h1) | h1)
    ·exact .inl h1
    ·exact .inr (.inl h1)
    ·exact .inr (.inr h1)
   ·rintro (h1 | h1 | h1)
    ·exact .inl (.inl h1)
    ·exact .inl (.inr h1)
    ·exact .inr h1
def zXB (ks:List (List UInt8)) (seen:List Nat):List (List UInt8):=seen.map fun i=>ks.getD i []
theorem zMS {ks:List (List UInt8)} {seen:List Nat} (hn:seen.Nodup) (hb:∀ i∈seen,i<ks.length) (ha:∀ i,i<ks.length→i∈seen):(zXB ks seen).Perm ks:=by
 have hp:seen.Perm (List.range ks.length):=by
  rw [List.perm_ext_iff_of_nodup hn List.nodup_range]
  intro i
  rw [lAZ]
  exact ⟨hb i,ha i⟩
 have:=hp.map fun i=>ks.getD i []
 refine this.trans (List.Perm.of_eq ?_)
 apply List.ext_getElem
 ·simp
 ·intro i h1 h2
  simp [lAB,lAG h2]
section steps
variable {P:Program} {H G:z0B} {al:AL} {K:KL} {Qp:AL→AV→z0B→Prop} {os:List IOper} {d:Nat} {x y:Arg}
theorem z4L {sz bytes id off k m:Nat} {cs ys:List AV} (hx:evL al x=.sl id off k sz) (hg:H[id]? =some (.cells cs)) (hc:off+k*sz≤cs.length)
  (hy:z1m sz H (evL al y)=some (m,ys)) (hs:ys.all AV.scalar=true) (hb:(k+m)*bytes≤140737488355328)
  (h:VV P os ((d,.sl H.length 0 (k+m) sz)::al) (H.set id .dead++[.cells ((cs.drop off).take (k*sz)++ys)]) K Qp) :
  VV P (⟨some d,.i (.m (.append sz bytes)),[x,y],none,none⟩::os) al H K Qp:=by
 refine z8X ?_ h
 have h0:z1m sz H (.sl id off k sz)=some (k,(cs.drop off).take (k*sz)):=by
  simp only [z1m,if_true,hg];rw [if_pos hc]
 simp only [z5a,z6m,z0u,hx,z5z,hy,h0,hs,lCT]
 rw [if_pos (by simpa using hb)]
 unfold put;rw [if_neg (by simp)]
theorem z3z {sz bytes m:Nat} {ys:List AV} (hx:evL al x=.nilslice) (hy:z1m sz H (evL al y)=some (m,ys)) (hm:0<m) (hs:ys.all AV.scalar=true) (hb:m*bytes≤140737488355328)
  (h:VV P os ((d,.sl H.length 0 m sz)::al) (H++[.cells ys]) K Qp):VV P (⟨some d,.i (.m (.append sz bytes)),[x,y],none,none⟩::os) al H K Qp:=by
 refine z8X ?_ h
 have h0:z1m sz H .nilslice=some (0,[]):=rfl
 simp only [z5a,z6m,z0u,hx,z5z,hy,h0,hs,lCT,lBN]
 rw [if_pos (by simpa using hb),if_neg (by omega)]
 unfold put;rw [if_neg (by omega)]
theorem z0Z {len sz:Nat} {zs:List AV} {ps:List (Nat × Nat)} {as_:List Arg} {out:List AV} (hf:z5M (if len*sz=0 then [] else z1J len zs) ps (z0u al as_)=some out)
  (h:VV P os ((d,.sl H.length 0 len sz)::al) (H++[.cells out]) K Qp):VV P (⟨some d,.i (.m (.buildSlice len sz zs ps)),as_,none,none⟩::os) al H K Qp:=by
 refine z8X ?_ h
 simp only [z5a,z6m,hf]
 unfold put;rw [if_neg (by omega)]
theorem z1y {sz m:Nat} {cs:List AV} (h:cs.length=m*sz):z1m sz (H++[.cells cs]) (.sl H.length 0 m sz)=some (m,cs):=by
 simp only [z1m,if_true]
 rw [lAJ (lAL _),lBJ]
 simp only [lA0]
 rw [if_pos (by omega),lBL,←h,lAW]
end steps
theorem Ext.set {H H':z0B} {id:Nat} {b:Blk} (h:Ext H H') (hid:H.length≤id):Ext H (H'.set id b):=by
 obtain ⟨G,rfl⟩:=h;exact ⟨G.set (id-H.length) b,by rw [lBC _ _ hid]⟩
theorem Upd.ext {H G H':z0B} {M:Nat} {ks:List (List UInt8)} (h:Upd (H++G) M ks H') (hM:H.length≤M):Ext H H':=by
 obtain ⟨_,G',rfl⟩:=h
 exact ⟨G.set (M-H.length) (MB ks)++G',by rw [lBC _ _ hM,lA2]⟩
theorem zCC {H:z0B} {a b:Nat} {x y:Blk} (h:H[a]? =some x) (hne:a≠b):(H.set b y)[a]? =some x:=by
 rw [lA7,if_neg (fun e=>hne e.symm)];exact h
theorem zKA {H:z0B} {a:Nat} {x y:Blk} (h:H[a]? =some x):(H.set a y)[a]? =some y:=by
 rw [lA7,if_pos rfl,if_pos (lAA.1 h).1]
theorem zHf:∀ (n:Nat) (l:List Nat),l.Nodup→(∀ i∈l,i<n)→l.length≤n
 | 0,l,_,h=>by
  cases l with
  | nil=>simp
  | cons a l=>exact absurd (h a (by simp)) (by omega)
 | n+1,l,hn,h=>by
  have h1:=zHf n (l.erase n) (hn.erase n) fun i hi=>by
   have h2:=List.mem_of_mem_erase hi
   have h3:=h i h2
   have:i≠n:=by rintro rfl;exact (List.Nodup.not_mem_erase hn) hi
   omega
  have:=List.length_erase (a:=n) (l:=l)
  split at this<;>omega
theorem zGb (ks:List (List UInt8)) (seen:List Nat) (i:Nat) (k:List UInt8) (h:ks[i]? =some k):zXB ks (seen++[i])=zXB ks seen++[k]:=by
 simp [zXB,lAB,h]
def zDe (H H':z0B) (v:AV) (l:List (List UInt8)):Prop :=
 Ext H H'∧((l=[]∧v=.nilslice)∨∃ id,v=.sl id 0 l.length 1∧H'[id]? =some (.cells (l.map .str))∧H.length≤id∧l≠[])
theorem zDe.nil {H H':z0B} (h:Ext H H'):zDe H H' .nilslice []:=⟨h,.inl ⟨rfl,rfl⟩⟩
theorem zDe.app {H H':z0B} {v:AV} {l:List (List UInt8)} (h:zDe H H' v l) (G:z0B):zDe H (H'++G) v l:=by
 obtain ⟨h1,h2⟩:=h
 refine ⟨h1.app G,?_⟩
 rcases h2 with h2 | ⟨id,a,b,c,d⟩
 ·exact .inl h2
 ·exact .inr ⟨id,a,z0G b,c,d⟩
theorem Ext.get {H H':z0B} (h:Ext H H') {j:Nat} {b:Blk} (hg:H[j]? =some b):H'[j]? =some b:=by obtain ⟨G,rfl⟩:=h;exact z0G hg
theorem Ext.len {H H':z0B} (h:Ext H H'):H.length≤H'.length:=by obtain ⟨G,rfl⟩:=h;simp
theorem Ext.base {H G H':z0B} (h:Ext (H++G) H'):Ext H H':=by obtain ⟨G',rfl⟩:=h;exact ⟨G++G',by rw [lA2]⟩
theorem zDe.ends {H G H':z0B} {v:AV} {l:List (List UInt8)} (h:zDe (H++G) H' v l):zBS H (z0X ⟨true,l⟩) (.ret v) H':=by
 obtain ⟨h1,h2⟩:=h
 rcases h2 with ⟨rfl,rfl⟩ | ⟨id,rfl,h3,h4,h5⟩
 ·exact z0W h1.base (zLg ⟨true,[]⟩)
 ·have he:z0X ⟨true,l⟩=.list 1 (l.map .str):=by
   unfold z0X
   rw [if_neg]
   intro h
   simp only [lAQ,lC2] at h
   exact h5 h.2
  obtain ⟨G',hG⟩:=h1.base.set (id:=id) (b:=.dead) (by rw [lAH] at h4;omega)
  exact ⟨_,G',rfl,.step id _ h3 (z9T id l) (by rw [hG,he];exact .done _ _),zLg _⟩
section steps
variable {P:Program} {H G:z0B} {al:AL} {K:KL} {Qp:AL→AV→z0B→Prop} {os:List IOper} {d:Nat} {x y:Arg}
theorem zAE {H0:z0B} {v:AV} {l ys:List (List UInt8)} (hx:evL al x=v) (ho:zDe H0 H v l) (hy:z1m 1 H (evL al y)=some (ys.length,ys.map .str)) (hb:l.length+ys.length≤1000000000)
  (h:∀ v' H',zDe H0 H' v' (l++ys)→VV P os ((d,v')::al) H' K Qp):VV P (⟨some d,.i (.m (.append 1 16)),[x,y],none,none⟩::os) al H K Qp:=by
 obtain ⟨h1,h2⟩:=ho
 rcases h2 with ⟨rfl,rfl⟩ | ⟨id,rfl,h3,h4,h5⟩
 ·cases ys with
  | nil=>exact z9S (ys:=[]) hx hy rfl (h _ _ ⟨h1,.inl ⟨rfl,rfl⟩⟩)
  | cons s ys =>
   refine z3z hx hy (by simp) (z6a _) (by simp at hb ⊢;omega) (h _ _ ⟨h1.app _,.inr ⟨_,rfl,?_,h1.len,by simp⟩⟩)
   rw [lAJ (lAL _),lBJ];rfl
 ·refine z4L hx h3 (by simp) hy (z6a _) (by omega) (h _ _ ⟨(h1.set h4).app _,.inr ⟨_,by rw [lAH],?_,h1.len,by simp [h5]⟩⟩)
  rw [lAJ (by simp)]
  simp
  exact lAS (by simp)
theorem zJY (l:List (List UInt8)):z1m 1 H (.list 1 (l.map .str))=some (l.length,l.map .str):=by
 simp only [z1m,if_true,lAE,zFN]
end steps
theorem zHG:∀ (l:List Ex) (i:Nat),(z3G (l.take i)).length≤(z3G l).length
 | [],i=>by simp
 | x::xs,0=>by simp [z3G]
 | x::xs,i+1=>by simp only [lBQ,z3G,lAH];have:=zHG xs i;omega
theorem c64 (e:Ex) (he:okE e) (hb:(z1V e).length≤1000000000) (H:z0B):z0D PP 111 [enc e] H (z1A H (z0X ⟨true,z1V e⟩)):=by
 match e,he,hb with
 | .mk op s nl l,he,hb =>
  have hs:=z4h nl l
  have hl:(l.map enc).length=l.length:=lAE _
  have hll:=zCz he
  simp only [z1V] at hb ⊢
  rw [z0a]
  refine z0D.gives (zUY.c1 z0R mixed rfl ?_)
  refine z0E ?_
  refine zKm (fun al' H'=>∃ ov,(al'=[(1,.ptr (H.length+0) 0),(3,ov)]∨al'=[(1,.ptr (H.length+0) 0),(3,ov),(7,.bool false)])∧zDe (H++[.cells [.int .i64 op,.str s,lst nl l]]) H' ov (if op==0 then [s] else [])) ?_ ?_
  ·cases h0:(op==0)
   ·refine z0E ?_
    exact ⟨_,.inr rfl,.nil (.refl _)⟩
   ·refine z0E ?_
    refine z0Z (out:=[.str s]) rfl ?_
    refine zAE (H0:=H++[.cells [.int .i64 op,.str s,lst nl l]]) (l:=[]) (ys:=[s]) rfl ((zDe.nil (.refl _)).app _) (z1y rfl) (by simp) ?_
    intro v' H' ho
    refine z0E ?_
    exact ⟨_,.inl rfl,ho⟩
  generalize (if op==0 then [s] else [])=pre at *
  have hB0:(H++[.cells [.int .i64 op,.str s,lst nl l]])[H.length+0]? =some (.cells [.int .i64 op,.str s,lst nl l]):=z1R
  have hend:∀ {H' v l'},zDe (H++[.cells [.int .i64 op,.str s,lst nl l]]) H' v l'→zBS H (z0X ⟨true,l'⟩) (.ret v) H':=fun h=>h.ends
  generalize (H++[.cells [.int .i64 op,.str s,lst nl l]]:z0B)=H0 at *
  rintro _ H1 ⟨ov,rfl | rfl,hO⟩
  all_goals
   refine z0E ?_
   refine z0F l.length (fun i al H'=>∃ ov,al=[(1,.ptr (H.length+0) 0),(3,ov),(4,.int .i64 i)]∧zDe H0 H' ov (pre++z3G (l.take i))) ⟨ov,rfl,by simpa [z3G] using hO⟩ ?_
   clear hO H1 ov
   rintro i _ H1 hi ⟨ov,rfl,hO⟩
   have hB:=hO.1.get hB0
   refine z0E ?_
   refine z0Q _ rfl ?_ ?_<;>intro hc
   ·simp only [lAD] at hc
    obtain ⟨c,hc⟩:=z0M (l:=l) (i:=i) (by omega)
    have hu:=z0q (f:=enc) hc
    have hm:=lAF hc
    have ht:=zBV hc
    have hle:(z3G (l.take (i+1))).length≤(z3G l).length:=zHG l (i+1)
    have hlen:(z3G (l.take i)).length+(z1V c).length≤(z3G l).length:=by rw [ht,lAH] at hle;exact hle
    rw [lAH] at hb
    obtain ⟨op',s',nl',l'⟩:=c
    rw [z0a] at hu
    have ih:=c64 (.mk op' s' nl' l') (z5J he hm) (by omega) H1
    rw [z0a] at ih
    refine z0E ?_
    refine z0H rfl ih ?_
    refine zAE rfl hO (z5G ⟨true,_⟩ _) (by rw [lAH];simp only;omega) ?_
    intro v' H' ho
    refine z0E ?_
    refine ⟨by omega,_,rfl,?_⟩
    rw [ht,←lA2];exact ho
   ·simp only [lAC] at hc
    have:i=l.length:=by omega
    subst this
    rw [lAW] at hO
    refine z0E ?_
    exact z0Y rfl (hend hO)
termination_by SizeOf.sizeOf e
decreasing_by all_goals (subst_vars;exact z2s (by assumption))
def zGK (b0:Nat):AV→Bool
 | .ptr j _=>Nat.blt j b0
 | _=>true
structure VT (P:Program) (b0 base:Nat) (ios:List IOper) (B:List (List Nat)) (K:KL) (G:AV→Prop) (s:Sched) (al:AL) (H:z0B):Prop where
 h:∀ S:List Rd,(∀ r∈S,zGK b0 r.x=true∧z0h r.n r.x H=some r.v)→vsL P base ios B K G s S al H
section vt
variable {P:Program} {H:z0B} {al:AL} {Q:PL} {K:KL} {b0 base:Nat} {ios:List IOper} {B:List (List Nat)} {Gp:AV→Prop} {s:Sched}
theorem vt_q {i:Nat} {o:IOper} (ho:ios[i]? =some o) (hq:z0v o=true) (hr:∀ v n x,z0f o al H=some (v,some (n,x))→zGK b0 x=true)
  (h:VV P [o] al H (fun al' _=>VT P b0 base ios B K Gp s al' H) (fun _ _ _=>False)):VT P b0 base ios B K Gp (.quiet i s) al H:=by
 refine ⟨fun S hS=>?_⟩
 obtain ⟨v,rd,h1,h2⟩:=z3e (K:=fun al' _=>VT P b0 base ios B K Gp s al' H) hq h.1
 simp only [vsL,ho,h1]
 refine h2.1 _ fun r hr'=>?_
 cases rd with
 | none=>exact hS r hr'
 | some q =>
  obtain ⟨n,u⟩:=q
  rcases lAT.1 hr' with rfl | hr'
  ·exact ⟨hr _ _ _ h1,z7m h1⟩
  ·exact hS r hr'
theorem hr_d {d:Option Nat} {op:DOp} {as_:List Arg} {r:Option Nat}:∀ v n x,z0f ⟨d,.i (.d op),as_,none,r⟩ al H=some (v,some (n,x))→zGK b0 x=true:=by
 intro v n x h
 simp only [z0f,z1p] at h
 split at h
 ·injection h with h;injection h with _ h;cases h
 ·cases h
theorem hr_l {d:Option Nat} {k:Option Nat} {a:Arg} {r:Option Nat} (hok:zGK b0 (evL al a)=true):∀ v n x,z0f ⟨d,.i (.m (.load k)),[a],none,r⟩ al H=some (v,some (n,x))→zGK b0 x=true:=by
 intro v n x h
 simp only [z0f,z1p,z0u] at h
 split at h
 ·injection h with h;injection h with _ h;injection h with h;injection h with _ h;subst h;exact hok
 ·cases h
theorem zXX {i:Nat} {o:IOper} (ho:ios[i]? =some o) (hr:o.res=none) (hb:base≤H.length)
  (h:VV P [o] al H (fun al' H'=>(∀ n x v,zGK b0 x=true→z0h n x H=some v→z0h n x H'=some v)∧VT P b0 base ios B K Gp s al' H') (fun _ v _=>Gp v)) :
  VT P b0 base ios B K Gp (.branch i s .stop) al H:=by
 refine ⟨fun S hS=>?_⟩
 have hrr:rOf base o H=H.length:=by simp [rOf,hr]
 simp only [vsL,ho,hrr]
 refine ⟨⟨?_,lCN hb,?_⟩,trivial⟩
 ·simp [z9J]
 ·refine z7y.vopL_mono h.1 ?_ (fun _ _ _ q=>q)
  rintro al' H' ⟨hpres,q⟩
  have hS':∀ r∈S,zGK b0 r.x=true∧z0h r.n r.x H'=some r.v:=fun r hr=>⟨(hS r hr).1,hpres _ _ _ (hS r hr).1 (hS r hr).2⟩
  refine ⟨?_,q.1 S hS'⟩
  unfold z5s
  rw [ho]
  simp only
  split
  ·trivial
  ·exact fun r hr _=>(hS' r hr).2
theorem zSq {ks:List Nat} {al':AL} (hk:z1d al ks=al') (h:Q .normal al' H):VT P b0 base ios B (fun a h=>Q .normal (z1d a ks) h) Gp .done al H:=⟨fun _ _=>by subst hk;exact h⟩
theorem zHr {ks:List Nat} (b0:Nat) (h:VT P b0 H.length ios B (fun a h=>Q .normal (z1d a ks) h) (fun _=>False) s al H):WI P (.draw 0 ios B s (some ks)) Q al H:=by
 refine ⟨⟨fun _=>False,fun _ _ f=>f.elim,?_⟩⟩
 have:z1Q H 0=H:=by simp [z1Q]
 rw [this]
 exact h.1 [] (by simp)
theorem zRG {H':z0B} {Qp:AL→AV→z0B→Prop} (h:VT P b0 base ios B K Gp s al H'):VV P [] al H (fun a _=>VT P b0 base ios B K Gp s a H') Qp:=⟨h⟩
theorem z9Q {H':z0B} {Qp:AL→AV→z0B→Prop} (hp:∀ n x v,zGK b0 x=true→z0h n x H'=some v→z0h n x H=some v) (h:VT P b0 base ios B K Gp s al H) :
  VV P [] al H (fun a h=>(∀ n x v,zGK b0 x=true→z0h n x H'=some v→z0h n x h=some v)∧VT P b0 base ios B K Gp s a h) Qp:=⟨⟨hp,h⟩⟩
theorem zMf {H0 H H':z0B} (h:Ext H0 H) (h':Ext H0 H'):∀ n x v,zGK H0.length x=true→z0h n x H=some v→z0h n x H'=some v:=by
 intro n x v ho hl
 obtain ⟨G,rfl⟩:=h
 obtain ⟨G',rfl⟩:=h'
 cases x with
 | ptr j off =>
  have hj:j<H0.length:=by simpa [zGK,lDH] using ho
  simp only [z0h,lAN hj] at hl ⊢
  exact hl
 | _=>exact hl
end vt
section steps
variable {P:Program} {H:z0B} {al:AL} {K:KL} {Qp:AL→AV→z0B→Prop} {os:List IOper} {d:Nat} {x y:Arg}
theorem zNv {H0:z0B} {v:AV} {l ys:List (List UInt8)} (hx:evL al x=v) (ho:zDe H0 H v l) (hy:z1m 1 H (evL al y)=some (ys.length,ys.map .str)) (hb:l.length+ys.length≤1000000000)
  (h:∀ v' H',zDe H0 H' v' (l++ys)→H.length≤H'.length→VV P os ((d,v')::al) H' K Qp):VV P (⟨some d,.i (.m (.append 1 16)),[x,y],none,none⟩::os) al H K Qp:=by
 obtain ⟨h1,h2⟩:=ho
 rcases h2 with ⟨rfl,rfl⟩ | ⟨id,rfl,h3,h4,h5⟩
 ·cases ys with
  | nil=>exact z9S (ys:=[]) hx hy rfl (h _ _ ⟨h1,.inl ⟨rfl,rfl⟩⟩ (lAL _))
  | cons s ys =>
   refine z3z hx hy (by simp) (z6a _) (by simp at hb ⊢;omega) (h _ _ ⟨h1.app _,.inr ⟨_,rfl,?_,h1.len,by simp⟩⟩ (by simp))
   rw [lAJ (lAL _),lBJ];rfl
 ·refine z4L hx h3 (by simp) hy (z6a _) (by omega) (h _ _ ⟨(h1.set h4).app _,.inr ⟨_,by rw [lAH],?_,h1.len,by simp [h5]⟩⟩ (by simp))
  rw [lAJ (by simp)]
  simp
  exact lAS (by simp)
end steps
theorem zKp {g n:Prop} (k:n) (h:Hide n→g:=by (intro k);(repeat (first | ((with_reducible apply z7c);focus (first | exact z2k | (apply z2j;(repeat (first | exact z0S | (apply z0P;focus exact rfl) | exact lk_nil))))) | ((with_reducible apply z8W);(focus (first | exact z2k | (apply z2j;(repeat (first | exact z0S | (apply z0P;focus exact rfl) | exact lk_nil)))));(focus assumption);exact rfl;(focus assumption)) | ((with_reducible apply z8V);(focus (first | exact z2k | (apply z2j;(repeat (first | exact z0S | (apply z0P;focus exact rfl) | exact lk_nil)))));(focus assumption);exact rfl;(focus assumption)) | ((with_reducible apply z4c);exact rfl;exact rfl) | ((with_reducible apply z4d);exact rfl) | ((with_reducible apply zBd);exact rfl;exact rfl) | ((with_reducible apply zBn);exact rfl;exact rfl) | ((with_reducible apply st_field);exact rfl;exact rfl) | ((with_reducible apply z3b);exact rfl;exact rfl) | ((with_reducible apply zBj);exact rfl;exact rfl) | ((with_reducible apply zBe);exact rfl;exact rfl) | ((with_reducible apply zBk);exact rfl;exact rfl) | ((with_reducible apply zBb);exact rfl;exact rfl) | ((with_reducible apply zBm);exact rfl;exact rfl) | ((with_reducible apply zBa);exact rfl;exact rfl) | ((with_reducible apply zBc);exact rfl;exact rfl) | ((with_reducible apply zBh);exact rfl;exact rfl) | ((with_reducible apply zBY);exact rfl) | ((with_reducible apply z4g);exact rfl;exact rfl) | ((with_reducible apply z2J);exact rfl;exact rfl) | ((with_reducible apply zBf);(focus (first | exact z2k | (apply z2j;(repeat (first | exact z0S | (apply z0P;focus exact rfl) | exact lk_nil)))));(focus assumption)) | ((with_reducible apply z8v);(focus (first | exact z2k | (apply z2j;(repeat (first | exact z0S | (apply z0P;focus exact rfl) | exact lk_nil)))));(focus assumption);exact rfl;(focus assumption)) | ((with_reducible apply z4e);exact rfl;exact rfl;(focus assumption)) | ((with_reducible apply z1k);exact rfl;exact rfl;exact rfl;exact rfl;exact rfl;(focus (first | exact rfl | exact z7R));exact rfl) | ((with_reducible apply z4b);exact rfl;exact rfl;exact rfl) | ((with_reducible apply z6L);exact rfl;(focus (first | assumption | exact z0G (by assumption)));exact rfl) | ((with_reducible apply z5F);exact rfl;exact rfl) | ((with_reducible apply z3H);exact rfl;(focus (first | exact z2k | (apply z2j;(repeat (first | exact z0S | (apply z0P;focus exact rfl) | exact lk_nil)))));exact rfl;exact rfl;exact rfl;exact rfl) | ((with_reducible apply z5E);exact rfl;exact rfl;exact rfl) | ((with_reducible apply z2a);exact rfl;(focus (first | assumption | exact z0G (by assumption)));exact rfl) | ((with_reducible apply zAD);(focus (first | exact z2k | (apply z2j;(repeat (first | exact z0S | (apply z0P;focus exact rfl) | exact lk_nil)))));exact rfl;exact rfl;exact rfl) | ((with_reducible apply z4f);exact rfl) | ((with_reducible apply z6M);exact rfl) | ((with_reducible apply z3C);exact rfl;exact rfl;(focus (first | decide | omega))) | ((with_reducible apply zBg);exact rfl;(focus omega)) | ((with_reducible apply vt_q);exact rfl;exact rfl;(focus (first | exact hr_d | exact hr_l rfl | exact hr_l (hokp _)))) | (with_reducible apply zRG) | ((with_reducible apply zSq);focus (repeat (first | exact z5u | ((with_reducible apply kp);focus (repeat (first | exact z0S | (apply z0P;focus exact rfl) | exact lk_nil))))))));(exact k.h)):g:=h ⟨k⟩
theorem zSp {g n:Prop} (k:n) (h:Hide n→g:=by (intro k);(repeat (first | ((with_reducible apply z7c);focus (first | exact z2k | (apply z2j;(repeat (first | exact z0S | (apply z0P;focus exact rfl) | exact lk_nil))))) | ((with_reducible apply z8W);(focus (first | exact z2k | (apply z2j;(repeat (first | exact z0S | (apply z0P;focus exact rfl) | exact lk_nil)))));(focus assumption);exact rfl;(focus assumption)) | ((with_reducible apply z8V);(focus (first | exact z2k | (apply z2j;(repeat (first | exact z0S | (apply z0P;focus exact rfl) | exact lk_nil)))));(focus assumption);exact rfl;(focus assumption)) | ((with_reducible apply z4c);exact rfl;exact rfl) | ((with_reducible apply z4d);exact rfl) | ((with_reducible apply zBd);exact rfl;exact rfl) | ((with_reducible apply zBn);exact rfl;exact rfl) | ((with_reducible apply st_field);exact rfl;exact rfl) | ((with_reducible apply z3b);exact rfl;exact rfl) | ((with_reducible apply zBj);exact rfl;exact rfl) | ((with_reducible apply zBe);exact rfl;exact rfl) | ((with_reducible apply zBk);exact rfl;exact rfl) | ((with_reducible apply zBb);exact rfl;exact rfl) | ((with_reducible apply zBm);exact rfl;exact rfl) | ((with_reducible apply zBa);exact rfl;exact rfl) | ((with_reducible apply zBc);exact rfl;exact rfl) | ((with_reducible apply zBh);exact rfl;exact rfl) | ((with_reducible apply zBY);exact rfl) | ((with_reducible apply z4g);exact rfl;exact rfl) | ((with_reducible apply z2J);exact rfl;exact rfl) | ((with_reducible apply zBf);(focus (first | exact z2k | (apply z2j;(repeat (first | exact z0S | (apply z0P;focus exact rfl) | exact lk_nil)))));(focus assumption)) | ((with_reducible apply z8v);(focus (first | exact z2k | (apply z2j;(repeat (first | exact z0S | (apply z0P;focus exact rfl) | exact lk_nil)))));(focus assumption);exact rfl;(focus assumption)) | ((with_reducible apply z4e);exact rfl;exact rfl;(focus assumption)) | ((with_reducible apply z1k);exact rfl;exact rfl;exact rfl;exact rfl;exact rfl;(focus (first | exact rfl | exact z7R));exact rfl) | ((with_reducible apply z4b);exact rfl;exact rfl;exact rfl) | ((with_reducible apply z6L);exact rfl;(focus (first | assumption | exact z0G (by assumption)));exact rfl) | ((with_reducible apply z5F);exact rfl;exact rfl) | ((with_reducible apply z3H);exact rfl;(focus (first | exact z2k | (apply z2j;(repeat (first | exact z0S | (apply z0P;focus exact rfl) | exact lk_nil)))));exact rfl;exact rfl;exact rfl;exact rfl) | ((with_reducible apply z5E);exact rfl;exact rfl;exact rfl) | ((with_reducible apply z2a);exact rfl;(focus (first | assumption | exact z0G (by assumption)));exact rfl) | ((with_reducible apply zAD);(focus (first | exact z2k | (apply z2j;(repeat (first | exact z0S | (apply z0P;focus exact rfl) | exact lk_nil)))));exact rfl;exact rfl;exact rfl) | ((with_reducible apply z4f);exact rfl) | ((with_reducible apply z6M);exact rfl) | ((with_reducible apply z3C);exact rfl;exact rfl;(focus (first | decide | omega))) | ((with_reducible apply zBg);exact rfl;(focus omega)) | ((with_reducible apply zAC);focus (repeat (first | exact z5u | ((with_reducible apply kp);focus (repeat (first | exact z0S | (apply z0P;focus exact rfl) | exact lk_nil)))))) | ((with_reducible apply zKs);focus (repeat (first | exact z5u | ((with_reducible apply kp);focus (repeat (first | exact z0S | (apply z0P;focus exact rfl) | exact lk_nil)))))) | ((with_reducible apply zXm);exact rfl;exact rfl) | ((with_reducible apply zXn);exact rfl;exact rfl;(focus exact lAL _)) | ((with_reducible apply zFz)) | (with_reducible apply zFy) | ((with_reducible apply z7a);(focus (first | exact rfl | exact congrArg AV.bool (by assumption)));(focus (first | exact z2k | (apply z2j;(repeat (first | exact z0S | (apply z0P;focus exact rfl) | exact lk_nil)))))) | ((with_reducible apply z7b);(focus (first | exact rfl | exact congrArg AV.bool (by assumption)));(focus (first | exact z2k | (apply z2j;(repeat (first | exact z0S | (apply z0P;focus exact rfl) | exact lk_nil)))))) | ((with_reducible apply z5h);(focus (first | exact rfl | exact congrArg AV.bool (by assumption)))) | ((with_reducible apply zDw);(focus (first | exact rfl | exact congrArg AV.bool (by assumption)))) | ((with_reducible apply zDx);(focus (first | exact rfl | exact congrArg AV.bool (by assumption)))) | ((with_reducible apply zBZ);exact rfl) | with_reducible refine z1e ?_ | with_reducible refine z0c ?_ | with_reducible refine zHb ?_ | with_reducible refine z7J ?_ | with_reducible refine z7z ?_ | with_reducible refine zFD ?_ | with_reducible refine zAf ?_ | with_reducible refine zTH ?_ | with_reducible refine zTJ ?_ | with_reducible refine zXR ?_ | with_reducible refine zXQ ?_ | with_reducible refine zXP ?_ | with_reducible refine bk_y rfl ?_ | ((with_reducible apply zFC);(focus (first | exact rfl | exact congrArg AV.bool (by assumption)))) | ((with_reducible apply zGX);(focus (first | exact rfl | exact congrArg AV.bool (by assumption)))) | refine z1e ?_));(exact k.h)):g:=h ⟨k⟩
theorem c29 (r:Ru) (hr:okR r) (hb:(z7T r).length≤1000000000) (H:z0B):z0D PP 63 [z6e r] H (z1A H (z0X ⟨true,z7T r⟩)):=by
 obtain ⟨kind,pn,pairs,ln,places,below⟩:=r
 obtain ⟨hnp,hnl,hps,hls⟩:=hr
 simp only at hnp hnl hps hls
 have hsp:=zEB pn pairs
 have hsl:=zGB ln places
 have hlp:(pairs.map z2W).length=pairs.length:=lAE _
 have hll:(places.map z0x).length=places.length:=lAE _
 have hocc:z7T ⟨kind,pn,pairs,ln,places,below⟩=z9W pairs++zAY places:=rfl
 rw [hocc] at hb ⊢
 rw [lAH] at hb
 unfold z6e
 refine z0D.gives (is63.c1 z0R mixed rfl ?_)
 refine z0E ?_
 have hB0:(H++[.cells [.int .i64 kind,z0T pn pairs,z0U ln places,.bool below]])[H.length+0]? =some (.cells [.int .i64 kind,z0T pn pairs,z0U ln places,.bool below]):=z1R
 have hend:∀ {H' v l'},zDe (H++[.cells [.int .i64 kind,z0T pn pairs,z0U ln places,.bool below]]) H' v l'→zBS H (z0X ⟨true,l'⟩) (.ret v) H':=fun h=>h.ends
 have hO0:zDe (H++[.cells [.int .i64 kind,z0T pn pairs,z0U ln places,.bool below]]) (H++[.cells [.int .i64 kind,z0T pn pairs,z0U ln places,.bool below]]) .nilslice []:=.nil (.refl _)
 refine z0F pairs.length (fun i al H'=>∃ ov,al=[(1,.ptr (H.length+0) 0),(3,ov),(4,.int .i64 i)]∧zDe (H++[.cells [.int .i64 kind,z0T pn pairs,z0U ln places,.bool below]]) H' ov (z9W (pairs.take i))) ⟨_,rfl,hO0⟩ ?_
 have hlt0:H.length+0<(H++[Blk.cells [.int .i64 kind,z0T pn pairs,z0U ln places,.bool below]]:z0B).length:=by simp
 generalize (H++[.cells [.int .i64 kind,z0T pn pairs,z0U ln places,.bool below]]:z0B)=H0 at *
 clear hO0
 rintro i _ H1 hi ⟨ov,rfl,hO⟩
 have hB:=hO.1.get hB0
 refine z0E ?_
 refine z0Q _ rfl ?_ ?_<;>intro hc
 ·simp only [lAD] at hc
  obtain ⟨c,hc⟩:=z0M (l:=pairs) (i:=i) (by omega)
  have hu:(pairs.map z2W)[i]? =some (.agg [z0X c.a,z0X c.b]):=z0q (f:=z2W) hc
  have ht:z9W (pairs.take (i+1))=z9W (pairs.take i)++c.a.l++c.b.l:=by
   rw [z2m hc,z9W,lBZ]
   simp [z9W]
  have hle:(z9W (pairs.take (i+1))).length≤(z9W pairs).length:=by
   have:pairs=pairs.take (i+1)++pairs.drop (i+1):=(lDV _ _).symm
   conv=>rhs;rw [this]
   rw [z9W,z9W,lBZ,lAH];omega
  rw [ht,lAH,lAH] at hle
  have hokp:∀ off,zGK H0.length (.ptr (H.length+0) off)=true:=by intro off;simp [zGK,lDH];simpa using hlt0
  have hsa:=z5G c.a
  have hsb:=z5G c.b
  refine zSp ?_
  refine zHr H0.length ?_
  refine zKp ?_
  refine zXX rfl rfl (lAL _) ?_
  refine zNv rfl hO (hsa _) (by omega) ?_
  intro v1 H2 hO2 hlen2
  refine z9Q (zMf hO.1 hO2.1) ?_
  refine zXX rfl rfl hlen2 ?_
  refine zAE rfl hO2 (hsb _) (by rw [lAH];omega) ?_
  intro v2 H3 hO3
  refine z9Q (zMf hO2.1 hO3.1) ?_
  refine zKp ?_
  refine z0E ?_
  exact ⟨by omega,_,rfl,by rw [ht];exact hO3⟩
 simp only [lAC] at hc
 have:i=pairs.length:=by omega
 subst this
 rw [lAW] at hO
 clear hi hc
 generalize z9W pairs=pre at *
 refine z0E ?_
 refine z0F places.length (fun i al H'=>∃ ov,al=[(1,.ptr (H.length+0) 0),(3,ov),(5,.int .i64 i)]∧zDe H0 H' ov (pre++zAY (places.take i))) ⟨ov,rfl,by simpa [zAY] using hO⟩ ?_
 clear hO hB H1 ov
 rintro i _ H1 hi ⟨ov,rfl,hO⟩
 have hB:=hO.1.get hB0
 refine z0E ?_
 refine z0Q _ rfl ?_ ?_<;>intro hc
 ·simp only [lAD] at hc
  obtain ⟨c,hc⟩:=z0M (l:=places) (i:=i) (by omega)
  have hok:=hls _ (lAF hc)
  have ht:zAY (places.take (i+1))=zAY (places.take i)++z1V c.1++z1V c.2:=by
   rw [z2m hc,zAY,lBZ]
   simp [zAY]
  have hle:(zAY (places.take (i+1))).length≤(zAY places).length:=by
   have:places=places.take (i+1)++places.drop (i+1):=(lDV _ _).symm
   conv=>rhs;rw [this]
   rw [zAY,zAY,lBZ,lAH];omega
  rw [ht,lAH,lAH] at hle
  have k1:=fun H=>c64 c.1 hok.1 (by omega) H
  have k2:=fun H=>c64 c.2 hok.2 (by omega) H
  generalize z1V c.1=y1 at *
  generalize z1V c.2=y2 at *
  obtain ⟨⟨o1,s1,n1,l1⟩,⟨o2,s2,n2,l2⟩⟩:=c
  have hu:(places.map z0x)[i]? =some (.agg [.int .i64 o1,.str s1,lst n1 l1,.int .i64 o2,.str s2,lst n2 l2]):=z0q (f:=z0x) hc
  simp only [z0a] at k1 k2
  refine z0E ?_
  refine z0H rfl (k1 _) ?_
  refine zAE rfl hO (z5G ⟨true,_⟩ _) (by rw [lAH];simp only;omega) ?_
  intro v1 H2 hO2
  have hB2:=hO2.1.get hB0
  refine z0E ?_
  refine z0H rfl (k2 _) ?_
  refine zAE rfl hO2 (z5G ⟨true,_⟩ _) (by rw [lAH,lAH];simp only;omega) ?_
  intro v2 H3 hO3
  refine z0E ?_
  refine ⟨by omega,_,rfl,?_⟩
  rw [ht,←lA2,←lA2];exact hO3
 simp only [lAC] at hc
 have:i=places.length:=by omega
 subst this
 rw [lAW] at hO
 refine z0E ?_
 exact z0Y rfl (hend hO)
theorem zRf (op:Int) (n:Nat) (h:n≤39) (s:List UInt8):(zAX op||z1g (zDF op) op s n)=(z2t (z5X op) op s n||z6s op s):=by
 unfold z1g z2t z6s
 rcases zGJ op with h1 | h1
 ·rcases h1 with rfl | rfl | rfl | rfl | rfl | rfl | rfl | rfl | rfl | rfl | rfl | rfl | rfl | rfl | rfl | rfl
  all_goals simp [zAX,z5X,zDF,show ¬ (40:Int)<(n:Int) by omega]
 ·have e1:zAX op=true:=by
   unfold zAX
   rcases h1 with h1 | h1
   ·simp [h1]
   ·simp;right;omega
  have e:z5X op=(0,0,false):=by
   unfold z5X
   rw [if_neg (by omega),if_neg (by omega),if_neg (by omega),if_neg (by omega),if_neg (by omega)]
  rw [e1,e]
  simp
mutual
theorem zHX:∀ e:Ex,e.size≤40→e.right2=e.right
 | .mk op s nl l,h=>by
  simp only [Ex.size] at h
  have hl:=z1H l
  have h1:=zEM l (by omega)
  have h2:=zRf op l.length (by omega) s
  simp only [Ex.right2,Ex.right,h1]
  rw [←Bool.not_or,←Bool.not_or,h2]
theorem zEM:∀ l:List Ex,z0V l≤40→z8b l=z5p l
 | [],_=>rfl
 | x::xs,h=>by
  simp only [z0V] at h
  simp only [z8b,z5p,zHX x (by omega),zEM xs (by omega)]
end
theorem zNf (e:Ex):z4X e=z5U e:=by
 unfold z4X z5U
 by_cases h:(decide ((e.size:Int)>40)||decide ((e.deep:Int)>12))=true
 ·rw [if_pos h,if_pos h]
 ·rw [if_neg h,if_neg h]
  simp only [lBX,lAD,not_or] at h
  rw [zHX e (by omega)]
theorem zNe (r:Ru):z9h r=z8Q r:=by
 have hv:z4X=z5U:=funext zNf
 unfold z9h z8Q
 rw [hv]
 have hf:zBP r=(zAh r||z6c r.pairs):=by
  unfold zBP zAh
  congr 1
  rcases r with ⟨kind,pn,pairs,ln,places,below⟩
  simp only
  by_cases h0:kind<0
  ·simp [h0]
  ·by_cases h3:kind>3
   ·simp [h3]
   ·have:(decide (kind<2))=((kind != 2)&&(kind != 3)):=by
     have:kind=0∨kind=1∨kind=2∨kind=3:=by omega
     rcases this with rfl | rfl | rfl | rfl<;>rfl
    rw [this,Bool.and_assoc]
 rw [hf]
 cases zAh r<;>cases z6c r.pairs<;>simp
abbrev Bt:=List UInt8
mutual
def nf:Ex→Nat
 | .mk _ s _ l=>nfs (1+s.length) l
def nfs:Nat→List Ex→Nat
 | n,[]=>n
 | n,x::xs=>if n≤24000 then nfs (n+nf x) xs else n
end
mutual
theorem zPU:∀ e:Ex,nf e≤e.w
 | .mk _ s _ l=>by simp only [nf,Ex.w];exact zQW (1+s.length) l
theorem zQW:∀ (n:Nat) (l:List Ex),nfs n l≤n+ws l
 | n,[]=>by simp [nfs,ws]
 | n,x::xs=>by
  have:=zPU x
  have:=zQW (n+nf x) xs
  simp only [nfs,ws];split<;>omega
end
theorem zQu {l:List Ex} {i:Nat} {x:Ex} (h:l[i]? =some x):ws (l.take (i+1))=ws (l.take i)+x.w:=by
 induction l generalizing i with
 | nil=>simp at h
 | cons y ys ih =>
  cases i with
  | zero=>simp at h;subst h;simp [ws]
  | succ i=>simp only [lBQ,ws];rw [ih (by simpa using h)];omega
theorem zQv:∀ (l:List Ex) (i:Nat),ws (l.take i)≤ws l
 | [],i=>by simp
 | x::xs,0=>by simp [ws]
 | x::xs,i+1=>by simp only [lBQ,ws];have:=zQv xs i;omega
theorem c25 (e:Ex) (he:okE e) (H:z0B):z0D PP 14 [enc e] H (z1A H (.int .i64 (nf e))):=by
 match e,he with
 | .mk op s nl l,he =>
  have hs:=z4h nl l
  have hl:(l.map enc).length=l.length:=lAE _
  have hll:=zCz he
  have hw:1+s.length+ws l≤1000000000000:=by unfold okE at he;simp only [Ex.w] at he;omega
  have hn:nf (.mk op s nl l)=nfs (1+s.length) l:=rfl
  rw [z0a,hn]
  refine z0D.gives (is14.c1 z0R mixed rfl ?_)
  refine z0E ?_
  refine z2A (a:=1) (b:=s.length) (by rfl) (by rfl) (by omega) ?_
  refine z0E ?_
  refine z0F l.length (fun i al H'=>∃ n:Nat,al=[(1,.ptr (H.length+0) 0),(3,.int .i64 n),(4,.int .i64 i)]∧H'=H++[.cells [.int .i64 op,.str s,lst nl l]]∧n≤1+s.length+ws (l.take i)∧nfs (1+s.length) l=nfs n (l.drop i)) ⟨_,rfl,rfl,by omega,rfl⟩ ?_
  rintro i _ _ hi ⟨n,rfl,rfl,hnb,hv⟩
  have hwi:=zQv l i
  refine z0E ?_
  cases hc:decide ((i:Int)<((l.map enc).length:Int))
  ·simp only [lAC] at hc
   have:i=l.length:=by omega
   subst this
   rw [lDQ] at hv
   rw [hv]
   refine z0E ?_
   exact fr
  ·simp only [lAD] at hc
   obtain ⟨c,hcg⟩:=z0M (l:=l) (i:=i) (by omega)
   have hu:=z0q (f:=enc) hcg
   have hm:=lAF hcg
   rw [z2Q hcg] at hv
   simp only [nfs] at hv
   refine z0E ?_
   refine z0Q _ rfl ?_ ?_<;>intro hq
   ·simp only [lAD] at hq
    rw [if_pos (by omega)] at hv
    have ih:=fun H=>c25 c (z5J he hm) H
    have h1:=zQu hcg
    have h2:=zQv l (i+1)
    have h3:=zPU c
    obtain ⟨op',s',nl',l'⟩:=c
    rw [z0a] at hu ih
    refine z0E ?_
    refine z0H rfl (ih _) ?_
    refine z2A (a:=n) (b:=nf (.mk op' s' nl' l')) (by rfl) (by rfl) (by omega) ?_
    refine z0E ?_
    exact ⟨by omega,_,rfl,rfl,by omega,hv⟩
   ·simp only [lAC] at hq
    rw [if_neg (by omega)] at hv
    rw [hv]
    refine z0E ?_
    exact fr
termination_by SizeOf.sizeOf e
decreasing_by exact z2s (by assumption)
def nw:Nat→List Bt→Nat
 | n,[]=>n
 | n,s::w=>if n≤24000 then nw (n+s.length) w else n
def tot:List Bt→Nat
 | []=>0
 | s::w=>s.length+tot w
theorem zLw:∀ (n:Nat) (w:List Bt),nw n w≤n+tot w
 | n,[]=>by simp [nw]
 | n,x::xs=>by have:=zLw (n+x.length) xs;simp only [nw,tot];split<;>omega
theorem zCa {l:List Bt} {i:Nat} {x:Bt} (h:l[i]? =some x):tot (l.take (i+1))=tot (l.take i)+x.length:=by
 induction l generalizing i with
 | nil=>simp at h
 | cons y ys ih =>
  cases i with
  | zero=>simp at h;subst h;simp [tot]
  | succ i=>simp only [lBQ,tot];rw [ih (by simpa using h)];omega
theorem z9n:∀ (l:List Bt) (i:Nat),tot (l.take i)≤tot l
 | [],i=>by simp
 | x::xs,0=>by simp [tot]
 | x::xs,i+1=>by simp only [lBQ,tot];have:=z9n xs i;omega
def nww (n:Nat) (a:List Bt):Nat:=nw (n+a.length) a
abbrev okT (w:List Bt):Prop:=w.length+tot w≤1000000000000
theorem c24 {a b:Wd} (ha:okT a.l) (hb:okT b.l) {id:Nat} {H:z0B} (hg:H[id]? =some (.cells [z0X a,z0X b])) :
  z0D PP 6 [.sl id 0 2 1] H (z1A H (.int .i64 (nww (nww 0 a.l) b.l))):=by
 have hg:(H++[])[id]? =some (.cells [z0X a,z0X b]):=z0G hg
 have sa:=z7S a
 have sb:=z7S b
 unfold okT at ha hb
 have la:(a.l.map AV.str).length=a.l.length:=lAE _
 have lb:(b.l.map AV.str).length=b.l.length:=lAE _
 have na:=zLw (0+a.l.length) a.l
 have nb:=zLw (nww 0 a.l+b.l.length) b.l
 have e1:nww 0 a.l=nw (0+a.l.length) a.l:=rfl
 refine z0D.gives (is6.c1 z0R mixed rfl ?_)
 refine z0E ?_
 refine z6T (fun al H'=>al=[(0,.sl id 0 2 1),(3,.int .i64 (0:Nat)),(4,.int .i64 (0:Nat))]∧H'=H++[]) (fun al H'=>al=[(0,.sl id 0 2 1),(3,.int .i64 (nww 0 a.l:Nat)),(4,.int .i64 (1:Nat))]∧H'=H++[])
  (fun al H'=>al=[(0,.sl id 0 2 1),(3,.int .i64 (nww (nww 0 a.l) b.l:Nat)),(4,.int .i64 (2:Nat))]∧H'=H++[]) ⟨rfl,rfl⟩ ?_ ?_ ?_
 ·rintro _ _ ⟨rfl,rfl⟩
  refine z0E ?_
  refine z2A (a:=0) (b:=(a.l.map AV.str).length) (by rfl) (by rfl) (by omega) ?_
  refine z0E ?_
  refine z0F a.l.length (fun j al H'=>∃ n:Nat,al=[(0,.sl id 0 2 1),(3,.int .i64 n),(4,.int .i64 (0:Nat)),(5,.int .i64 j)]∧H'=H++[]∧n≤0+a.l.length+tot (a.l.take j)∧nww (0) a.l=nw n (a.l.drop j)) ⟨_,rfl,rfl,by rw [la];omega,by rw [la];rfl⟩ ?_
  rintro j _ _ hj ⟨n,rfl,rfl,hnb,hv⟩
  have ht:=z9n a.l j
  refine z0E ?_
  cases hc:decide ((j:Int)<((a.l.map AV.str).length:Int))
  ·simp only [lAC] at hc
   rw [lCG (by omega)] at hv
   refine z0E ?_
   exact ⟨by rw [hv];rfl,rfl⟩
  ·simp only [lAD] at hc
   obtain ⟨c,hcg⟩:=z0M (l:=a.l) (i:=j) (by omega)
   have hu:=z0q (f:=AV.str) hcg
   rw [z2Q hcg] at hv
   simp only [nw] at hv
   refine z0E ?_
   refine z0Q _ rfl ?_ ?_<;>intro hq
   ·simp only [lAD] at hq
    rw [if_pos (by omega)] at hv
    have h1:=zCa hcg
    have h2:=z9n a.l (j+1)
    refine z0E ?_
    refine z2A (a:=n) (b:=c.length) (by rfl) (by rfl) (by omega) ?_
    refine z0E ?_
    exact ⟨by omega,_,rfl,rfl,by omega,hv⟩
   ·simp only [lAC] at hq
    rw [if_neg (by omega)] at hv
    refine z0E ?_
    exact ⟨by rw [hv];rfl,rfl⟩
 ·rintro _ _ ⟨rfl,rfl⟩
  refine z0E ?_
  refine z2A (a:=nww 0 a.l) (b:=(b.l.map AV.str).length) (by rfl) (by rfl) (by omega) ?_
  refine z0E ?_
  refine z0F b.l.length (fun j al H'=>∃ n:Nat,al=[(0,.sl id 0 2 1),(3,.int .i64 n),(4,.int .i64 (1:Nat)),(5,.int .i64 j)]∧H'=H++[]∧n≤nww 0 a.l+b.l.length+tot (b.l.take j)∧nww (nww 0 a.l) b.l=nw n (b.l.drop j)) ⟨_,rfl,rfl,by rw [lb];omega,by rw [lb];rfl⟩ ?_
  rintro j _ _ hj ⟨n,rfl,rfl,hnb,hv⟩
  have ht:=z9n b.l j
  refine z0E ?_
  cases hc:decide ((j:Int)<((b.l.map AV.str).length:Int))
  ·simp only [lAC] at hc
   rw [lCG (by omega)] at hv
   refine z0E ?_
   exact ⟨by rw [hv];rfl,rfl⟩
  ·simp only [lAD] at hc
   obtain ⟨c,hcg⟩:=z0M (l:=b.l) (i:=j) (by omega)
   have hu:=z0q (f:=AV.str) hcg
   rw [z2Q hcg] at hv
   simp only [nw] at hv
   refine z0E ?_
   refine z0Q _ rfl ?_ ?_<;>intro hq
   ·simp only [lAD] at hq
    rw [if_pos (by omega)] at hv
    have h1:=zCa hcg
    have h2:=z9n b.l (j+1)
    refine z0E ?_
    refine z2A (a:=n) (b:=c.length) (by rfl) (by rfl) (by omega) ?_
    refine z0E ?_
    exact ⟨by omega,_,rfl,rfl,by omega,hv⟩
   ·simp only [lAC] at hq
    rw [if_neg (by omega)] at hv
    refine z0E ?_
    exact ⟨by rw [hv];rfl,rfl⟩
 ·rintro _ _ ⟨rfl,rfl⟩
  refine z0E ?_
  exact fr
theorem Is.c0 {P:Program} {H:z0B} {f:FuncId} {anns:List Ann} {F:IFunc} {R:z2U} (hnn:z6F P) (hm:P.follows .mixedOrders=true) (hF:Is P f anns F) (hn:Nat.ble 0 F.n=true) (h:WI P F.body (z3m F.rs R) [] (H++[])):z0D P f [] H R:=by
 rw [lAK] at h;exact hF.call hnn hm hn h.1
end Go.Ab
