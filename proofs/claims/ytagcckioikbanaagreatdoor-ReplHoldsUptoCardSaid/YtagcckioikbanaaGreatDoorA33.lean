/- Part 33 of the proof. -/
import Derived.Test.YtagcckioikbanaaGreatDoorA27
import Derived.Test.YtagcckioikbanaaGreatDoorA32
set_option linter.unusedVariables false
set_option linter.unusedSimpArgs false
namespace Go.Ab
open Go
set_option maxRecDepth 100000
set_option maxHeartbeats 8000000
theorem zBS:∀ {ks:List (List UInt8)} {n:Nat} {e:AV × AV × Nat},e∈z2v n ks→∃ i k,ks[i]? =some k∧e=(.str k,.bool true,n+i)
 | [],n,e,h=>by cases h
 | k::ks,n,e,h=>by
  simp only [z2v,lAV] at h
  rcases h with rfl | h
  ·exact ⟨0,k,rfl,rfl⟩
  ·obtain ⟨i,k',h1,h2⟩:=zBS h
   exact ⟨i+1,k',by simpa using h1,by rw [h2];congr 2;omega⟩
theorem zGT:∀ {ks:List (List UInt8)} {n i:Nat} {k:List UInt8},ks[i]? =some k→(.str k,.bool true,n+i)∈z2v n ks
 | [],n,i,k,h=>by simp at h
 | k'::ks,n,0,k,h=>by simp at h;subst h;simp [z2v]
 | k'::ks,n,i+1,k,h=>by
  have:=zGT (n:=n+1) (show ks[i]? =some k by simpa using h)
  simp only [z2v,lAV]
  right;rw [show n+(i+1)=n+1+i by omega];exact this
theorem zDB:∀ {ks:List (List UInt8)} {n i:Nat} {k:List UInt8},ks[i]? =some k→(z2v n ks).find? (fun e=>e.2.2==n+i)=some (.str k,.bool true,n+i)
 | [],n,i,k,h=>by simp at h
 | k'::ks,n,0,k,h=>by simp at h;subst h;simp [z2v]
 | k'::ks,n,i+1,k,h=>by
  have:=zDB (n:=n+1) (show ks[i]? =some k by simpa using h)
  simp only [z2v]
  rw [List.find?_cons_of_neg (by simp)]
  rw [show n+(i+1)=n+1+i by omega];exact this
section steps
variable {P:Program} {H G:z0B} {al:AL} {K:KL} {Qp:AL→AV→z0B→Prop} {os:List IOper} {d:Nat} {x y:Arg}
theorem zHA {it M:Nat} {ks:List (List UInt8)} {seen:List Nat} (hx:evL al x=.ptr it 0) (hi:H[it]? =some (.iter (some M) ks.length seen ks.length)) (hm:H[M]? =some (MB ks))
  (hdone:(∀ i,i<ks.length→i∈seen)→VV P os ((d,.tuple [.bool false])::al) H K Qp)
  (hnext:∀ i k,ks[i]? =some k→i∉seen→VV P os ((d,.tuple [.bool true,.str k,.bool true])::al) (H.set it (.iter (some M) ks.length (seen++[i]) ks.length)) K Qp) :
  VV P (⟨some d,.next,[x],none,none⟩::os) al H K Qp:=by
 refine ⟨?_⟩
 show (match zHT (z1G al [x]) H with | some l=>∀ x∈l,z7W P os (z9y al (some d) x.1) x.2 K Qp | none=>False)
 have e1:z1G al [x]=[.ptr it 0]:=by show [evL al x]=_;rw [hx]
 have e2:z9q H it=some (some M,ks.length,seen,ks.length):=by simp only [z9q,hi]
 have e3:z4M H M=some (z2v 0 ks,ks.length):=by simp only [z4M,hm,MB]
 have hall:(!seen.isEmpty && !(z2v 0 ks).isEmpty&&(z2v 0 ks).all (fun e=>decide (e.2.2≥ks.length)))=false:=by
  cases ks with
  | nil=>simp [z2v]
  | cons k ks=>simp [z2v]
 have hnew:((z2v 0 ks).filter fun e=>!seen.contains e.2.2).filter (fun e=>decide (e.2.2≥ks.length))=[]:=by
  rw [List.filter_eq_nil_iff]
  intro e he
  obtain ⟨i,k,h1,rfl⟩:=zBS (lBT.1 he).1
  have:=(lAA.1 h1).1
  simp;omega
 rw [e1]
 simp only [zHT,e2,e3,hall,lAX,if_false,hnew,lAJ]
 intro z hz
 rcases lA5.1 hz with hz | hz
 ·split at hz
  ·rename_i hemp
   rw [lAR] at hz
   subst hz
   refine (hdone fun i hi'=>?_).1
   rw [lCX,List.filter_eq_nil_iff] at hemp
   obtain ⟨k,hk⟩:=z0M hi'
   refine Classical.byContradiction fun hns=>?_
   have hme:=zGT (n:=0) hk
   have:=hemp _ (lBT.2 ⟨hme,by simpa using hns⟩)
   simp at this;omega
  ·cases hz
 ·obtain ⟨e,he,rfl⟩:=lBB.1 hz
  have he':=(lBT.1 he).1
  obtain ⟨h1,h2⟩:=lBT.1 he'
  obtain ⟨i,k,h3,rfl⟩:=zBS h1
  have:=(hnext i k h3 (by simpa using h2)).1
  simp only [lBH]
  exact this
theorem zFC {it M i:Nat} {ks:List (List UInt8)} {seen:List Nat} {k:List UInt8} (hx:evL al x=.ptr it 0) (hi:H[it]? =some (.iter (some M) ks.length (seen++[i]) ks.length)) (hm:H[M]? =some (MB ks))
  (hk:ks[i]? =some k) (h:VV P os ((d,.tuple [.str k,.bool true])::al) H K Qp):VV P (⟨some d,.i (.n .entry),[x],none,none⟩::os) al H K Qp:=by
 refine z9J (H':=H) (v:=.tuple [.str k,.bool true]) ?_ h
 have e1:z1G al [x]=[.ptr it 0]:=by show [evL al x]=_;rw [hx]
 have e2:z9q H it=some (some M,ks.length,seen++[i],ks.length):=by simp only [z9q,hi]
 have e3:z4M H M=some (z2v 0 ks,ks.length):=by simp only [z4M,hm,MB]
 have e4:=zDB (n:=0) hk
 rw [lBH] at e4
 show zAS .entry (z1G al [x]) H H.length=_
 rw [e1]
 simp only [zAS,e2,e3,List.getLast?_concat,if_true,e4]
theorem zPt {M:Nat} {ks:List (List UInt8)} (hx:evL al x=.map M) (hm:H[M]? =some (MB ks)) (h:VV P os ((d,.ptr H.length 0)::al) (H++[.iter (some M) ks.length [] ks.length]) K Qp) :
  VV P (⟨some d,.i (.n .range),[x],none,none⟩::os) al H K Qp:=by
 refine z9J ?_ h
 have e1:z1G al [x]=[.map M]:=by show [evL al x]=_;rw [hx]
 have e3:z4M H M=some (z2v 0 ks,ks.length):=by simp only [z4M,hm,MB]
 show zAS .range (z1G al [x]) H H.length=_
 rw [e1]
 simp only [zAS,e3]
 unfold put;rw [if_neg (by omega)]
end steps
theorem z9x:∀ (l ks:List (List UInt8)),ks.Nodup→(z0x ks l).Nodup
 | [],ks,h=>h
 | s::l,ks,h=>by
  show (z0x (zPZ ks s) l).Nodup
  refine z9x l _ ?_
  unfold zPZ
  split
  ·exact h
  ·rename_i hn
   rw [List.nodup_append]
   refine ⟨h,by simp,?_⟩
   intro a ha b hb e
   rw [lAR] at hb
   subst hb;subst e;exact hn ha
theorem z9h:∀ (l ks:List (List UInt8)) (x:List UInt8),x∈z0x ks l↔x∈ks∨x∈l
 | [],ks,x=>by simp [z0x]
 | s::l,ks,x=>by
  show x∈z0x (zPZ ks s) l↔_
  rw [z9h l]
  unfold zPZ
  split
  ·rename_i h
   simp only [lAV]
   constructor
   ·rintro (h1 | h1)
    ·exact .inl h1
    ·exact .inr (.inr h1)
   ·rintro (h1 | rfl | h1)
    ·exact .inl h1
    ·exact .inl h
    ·exact .inr h1
  ·simp only [lA5,lAV,lA7,or_false]
   constructor
   ·rintro ((h1 | h1) | h1)
    ·exact .inl h1
    ·exact .inr (.inl h1)
    ·exact .inr (.inr h1)
   ·rintro (h1 | h1 | h1)
    ·exact .inl (.inl h1)
    ·exact .inl (.inr h1)
    ·exact .inr h1
def zYK (ks:List (List UInt8)) (seen:List Nat):List (List UInt8):=seen.map fun i=>ks.getD i []
theorem zNU {ks:List (List UInt8)} {seen:List Nat} (hn:seen.Nodup) (hb:∀ i∈seen,i<ks.length) (ha:∀ i,i<ks.length→i∈seen):(zYK ks seen).Perm ks:=by
 have hp:seen.Perm (List.range ks.length):=by
  rw [List.perm_ext_iff_of_nodup hn List.nodup_range]
  intro i
  rw [lA8]
  exact ⟨hb i,ha i⟩
 have:=hp.map fun i=>ks.getD i []
 refine this.trans (List.Perm.of_eq ?_)
 apply List.ext_getElem
 ·simp
 ·intro i h1 h2
  simp [lAB,lAG h2]
section steps
variable {P:Program} {H G:z0B} {al:AL} {K:KL} {Qp:AL→AV→z0B→Prop} {os:List IOper} {d:Nat} {x y:Arg}
theorem z4G {sz bytes id off k m:Nat} {cs ys:List AV} (hx:evL al x=.sl id off k sz) (hg:H[id]? =some (.cells cs)) (hc:off+k*sz≤cs.length)
  (hy:z1m sz H (evL al y)=some (m,ys)) (hs:ys.all AV.scalar=true) (hb:(k+m)*bytes≤140737488355328)
  (h:VV P os ((d,.sl H.length 0 (k+m) sz)::al) (H.set id .dead++[.cells ((cs.drop off).take (k*sz)++ys)]) K Qp) :
  VV P (⟨some d,.i (.m (.append sz bytes)),[x,y],none,none⟩::os) al H K Qp:=by
 refine z9J ?_ h
 have h0:z1m sz H (.sl id off k sz)=some (k,(cs.drop off).take (k*sz)):=by
  simp only [z1m,if_true,hg];rw [if_pos hc]
 simp only [z5p,z7J,z1G,hx,z6c,hy,h0,hs,lCW]
 rw [if_pos (by simpa using hb)]
 unfold put;rw [if_neg (by simp)]
theorem z3x {sz bytes m:Nat} {ys:List AV} (hx:evL al x=.nilslice) (hy:z1m sz H (evL al y)=some (m,ys)) (hm:0<m) (hs:ys.all AV.scalar=true) (hb:m*bytes≤140737488355328)
  (h:VV P os ((d,.sl H.length 0 m sz)::al) (H++[.cells ys]) K Qp):VV P (⟨some d,.i (.m (.append sz bytes)),[x,y],none,none⟩::os) al H K Qp:=by
 refine z9J ?_ h
 have h0:z1m sz H .nilslice=some (0,[]):=rfl
 simp only [z5p,z7J,z1G,hx,z6c,hy,h0,hs,lCW,lBH]
 rw [if_pos (by simpa using hb),if_neg (by omega)]
 unfold put;rw [if_neg (by omega)]
theorem z0S {len sz:Nat} {zs:List AV} {ps:List (Nat × Nat)} {as_:List Arg} {out:List AV} (hf:z4T (if len*sz=0 then [] else z1C len zs) ps (z1G al as_)=some out)
  (h:VV P os ((d,.sl H.length 0 len sz)::al) (H++[.cells out]) K Qp):VV P (⟨some d,.i (.m (.buildSlice len sz zs ps)),as_,none,none⟩::os) al H K Qp:=by
 refine z9J ?_ h
 simp only [z5p,z7J,hf]
 unfold put;rw [if_neg (by omega)]
theorem z2L {sz m:Nat} {cs:List AV} (h:cs.length=m*sz):z1m sz (H++[.cells cs]) (.sl H.length 0 m sz)=some (m,cs):=by
 simp only [z1m,if_true]
 rw [lAM (lAL _),lBG]
 simp only [lAY]
 rw [if_pos (by omega),lBP,←h,lAW]
end steps
theorem Ext.set {H H':z0B} {id:Nat} {b:Blk} (h:Ext H H') (hid:H.length≤id):Ext H (H'.set id b):=by
 obtain ⟨G,rfl⟩:=h;exact ⟨G.set (id-H.length) b,by rw [lA6 _ _ hid]⟩
theorem zDA {H:z0B} {a b:Nat} {x y:Blk} (h:H[a]? =some x) (hne:a≠b):(H.set b y)[a]? =some x:=by
 rw [lBF,if_neg (fun e=>hne e.symm)];exact h
theorem zLJ {H:z0B} {a:Nat} {x y:Blk} (h:H[a]? =some x):(H.set a y)[a]? =some y:=by
 rw [lBF,if_pos rfl,if_pos (lAA.1 h).1]
theorem zDz:∀ (n:Nat) (l:List Nat),l.Nodup→(∀ i∈l,i<n)→l.length≤n
 | 0,l,_,h=>by
  cases l with
  | nil=>simp
  | cons a l=>exact absurd (h a (by simp)) (by omega)
 | n+1,l,hn,h=>by
  have h1:=zDz n (l.erase n) (hn.erase n) fun i hi=>by
   have h2:=List.mem_of_mem_erase hi
   have h3:=h i h2
   have:i≠n:=by rintro rfl;exact (List.Nodup.not_mem_erase hn) hi
   omega
  have:=List.length_erase (a:=n) (l:=l)
  split at this<;>omega
theorem zHe (ks:List (List UInt8)) (seen:List Nat) (i:Nat) (k:List UInt8) (h:ks[i]? =some k):zYK ks (seen++[i])=zYK ks seen++[k]:=by
 simp [zYK,lAB,h]
def zEg (H H':z0B) (v:AV) (l:List (List UInt8)):Prop :=
 Ext H H'∧((l=[]∧v=.nilslice)∨∃ id,v=.sl id 0 l.length 1∧H'[id]? =some (.cells (l.map .str))∧H.length≤id∧l≠[])
theorem zEg.nil {H H':z0B} (h:Ext H H'):zEg H H' .nilslice []:=⟨h,.inl ⟨rfl,rfl⟩⟩
theorem zEg.app {H H':z0B} {v:AV} {l:List (List UInt8)} (h:zEg H H' v l) (G:z0B):zEg H (H'++G) v l:=by
 obtain ⟨h1,h2⟩:=h
 refine ⟨h1.app G,?_⟩
 rcases h2 with h2 | ⟨id,a,b,c,d⟩
 ·exact .inl h2
 ·exact .inr ⟨id,a,z0G b,c,d⟩
theorem Ext.get {H H':z0B} (h:Ext H H') {j:Nat} {b:Blk} (hg:H[j]? =some b):H'[j]? =some b:=by obtain ⟨G,rfl⟩:=h;exact z0G hg
theorem Ext.len {H H':z0B} (h:Ext H H'):H.length≤H'.length:=by obtain ⟨G,rfl⟩:=h;simp
theorem Ext.base {H G H':z0B} (h:Ext (H++G) H'):Ext H H':=by obtain ⟨G',rfl⟩:=h;exact ⟨G++G',by rw [lA3]⟩
theorem zEg.ends {H G H':z0B} {v:AV} {l:List (List UInt8)} (h:zEg (H++G) H' v l):zCL H (z0X ⟨true,l⟩) (.ret v) H':=by
 obtain ⟨h1,h2⟩:=h
 rcases h2 with ⟨rfl,rfl⟩ | ⟨id,rfl,h3,h4,h5⟩
 ·exact z0b h1.base (zMh ⟨true,[]⟩)
 ·have he:z0X ⟨true,l⟩=.list 1 (l.map .str):=by
   unfold z0X
   rw [if_neg]
   intro h
   simp only [lAS,lCX] at h
   exact h5 h.2
  obtain ⟨G',hG⟩:=h1.base.set (id:=id) (b:=.dead) (by rw [lAH] at h4;omega)
  exact ⟨_,G',rfl,.step id _ h3 (zAP id l) (by rw [hG,he];exact .done _ _),zMh _⟩
section steps
variable {P:Program} {H G:z0B} {al:AL} {K:KL} {Qp:AL→AV→z0B→Prop} {os:List IOper} {d:Nat} {x y:Arg}
theorem zAu {H0:z0B} {v:AV} {l ys:List (List UInt8)} (hx:evL al x=v) (ho:zEg H0 H v l) (hy:z1m 1 H (evL al y)=some (ys.length,ys.map .str)) (hb:l.length+ys.length≤1000000000)
  (h:∀ v' H',zEg H0 H' v' (l++ys)→VV P os ((d,v')::al) H' K Qp):VV P (⟨some d,.i (.m (.append 1 16)),[x,y],none,none⟩::os) al H K Qp:=by
 obtain ⟨h1,h2⟩:=ho
 rcases h2 with ⟨rfl,rfl⟩ | ⟨id,rfl,h3,h4,h5⟩
 ·cases ys with
  | nil=>exact zAM (ys:=[]) hx hy rfl (h _ _ ⟨h1,.inl ⟨rfl,rfl⟩⟩)
  | cons s ys =>
   refine z3x hx hy (by simp) (z7D _) (by simp at hb ⊢;omega) (h _ _ ⟨h1.app _,.inr ⟨_,rfl,?_,h1.len,by simp⟩⟩)
   rw [lAM (lAL _),lBG];rfl
 ·refine z4G hx h3 (by simp) hy (z7D _) (by omega) (h _ _ ⟨(h1.set h4).app _,.inr ⟨_,by rw [lAH],?_,h1.len,by simp [h5]⟩⟩)
  rw [lAM (by simp)]
  simp
  exact lAQ (by simp)
theorem zKg (l:List (List UInt8)):z1m 1 H (.list 1 (l.map .str))=some (l.length,l.map .str):=by
 simp only [z1m,if_true,lAD,zGN]
end steps
theorem zJL:∀ (l:List Ex) (i:Nat),(z3Z (l.take i)).length≤(z3Z l).length
 | [],i=>by simp
 | x::xs,0=>by simp [z3Z]
 | x::xs,i+1=>by simp only [lBV,z3Z,lAH];have:=zJL xs i;omega
theorem c64 (e:Ex) (he:okE e) (hb:(z1d e).length≤1000000000) (H:z0B):z0C PP 111 [enc e] H (z1D H (z0X ⟨true,z1d e⟩)):=by
 match e,he,hb with
 | .mk op s nl l,he,hb =>
  have hs:=z5G nl l
  have hl:(l.map enc).length=l.length:=lAD _
  have hll:=zDx he
  simp only [z1d] at hb ⊢
  rw [z0e]
  refine z0C.gives (zVc.c1 z0P mixed rfl ?_)
  refine z0F ?_
  refine zCM (fun al' H'=>∃ ov,(al'=[(1,.ptr (H.length+0) 0),(3,ov)]∨al'=[(1,.ptr (H.length+0) 0),(3,ov),(7,.bool false)])∧zEg (H++[.cells [.int .i64 op,.str s,lst nl l]]) H' ov (if op==0 then [s] else [])) ?_ ?_
  ·cases h0:(op==0)
   ·refine z0F ?_
    exact ⟨_,.inr rfl,.nil (.refl _)⟩
   ·refine z0F ?_
    refine z0S (out:=[.str s]) rfl ?_
    refine zAu (H0:=H++[.cells [.int .i64 op,.str s,lst nl l]]) (l:=[]) (ys:=[s]) rfl ((zEg.nil (.refl _)).app _) (z2L rfl) (by simp) ?_
    intro v' H' ho
    refine z0F ?_
    exact ⟨_,.inl rfl,ho⟩
  generalize (if op==0 then [s] else [])=pre at *
  have hB0:(H++[.cells [.int .i64 op,.str s,lst nl l]])[H.length+0]? =some (.cells [.int .i64 op,.str s,lst nl l]):=z1S
  have hend:∀ {H' v l'},zEg (H++[.cells [.int .i64 op,.str s,lst nl l]]) H' v l'→zCL H (z0X ⟨true,l'⟩) (.ret v) H':=fun h=>h.ends
  generalize (H++[.cells [.int .i64 op,.str s,lst nl l]]:z0B)=H0 at *
  rintro _ H1 ⟨ov,rfl | rfl,hO⟩
  all_goals
   refine z0F ?_
   refine z0H l.length (fun i al H'=>∃ ov,al=[(1,.ptr (H.length+0) 0),(3,ov),(4,.int .i64 i)]∧zEg H0 H' ov (pre++z3Z (l.take i))) ⟨ov,rfl,by simpa [z3Z] using hO⟩ ?_
   clear hO H1 ov
   rintro i _ H1 hi ⟨ov,rfl,hO⟩
   have hB:=hO.1.get hB0
   refine z0F ?_
   refine z0R _ rfl ?_ ?_<;>intro hc
   ·simp only [lAE] at hc
    obtain ⟨c,hc⟩:=z0M (l:=l) (i:=i) (by omega)
    have hu:=z1A (f:=enc) hc
    have hm:=lAF hc
    have ht:=zCS hc
    have hle:(z3Z (l.take (i+1))).length≤(z3Z l).length:=zJL l (i+1)
    have hlen:(z3Z (l.take i)).length+(z1d c).length≤(z3Z l).length:=by rw [ht,lAH] at hle;exact hle
    rw [lAH] at hb
    obtain ⟨op',s',nl',l'⟩:=c
    rw [z0e] at hu
    have ih:=c64 (.mk op' s' nl' l') (z5k he hm) (by omega) H1
    rw [z0e] at ih
    refine z0F ?_
    refine z0J rfl ih ?_
    refine zAu rfl hO (z5h ⟨true,_⟩ _) (by rw [lAH];simp only;omega) ?_
    intro v' H' ho
    refine z0F ?_
    refine ⟨by omega,_,rfl,?_⟩
    rw [ht,←lA3];exact ho
   ·simp only [lAC] at hc
    have:i=l.length:=by omega
    subst this
    rw [lAW] at hO
    refine z0F ?_
    exact z0W rfl (hend hO)
termination_by SizeOf.sizeOf e
decreasing_by all_goals (subst_vars;exact z3L (by assumption))
def zHQ (b0:Nat):AV→Bool
 | .ptr j _=>Nat.blt j b0
 | _=>true
structure VT (P:Program) (b0 base:Nat) (ios:List IOper) (B:List (List Nat)) (K:KL) (G:AV→Prop) (s:Sched) (al:AL) (H:z0B):Prop where
 h:∀ S:List Rd,(∀ r∈S,zHQ b0 r.x=true∧z0p r.n r.x H=some r.v)→vsL P base ios B K G s S al H
section vt
variable {P:Program} {H:z0B} {al:AL} {Q:PL} {K:KL} {b0 base:Nat} {ios:List IOper} {B:List (List Nat)} {Gp:AV→Prop} {s:Sched}
theorem vt_q {i:Nat} {o:IOper} (ho:ios[i]? =some o) (hq:z1H o=true) (hr:∀ v n x,z0q o al H=some (v,some (n,x))→zHQ b0 x=true)
  (h:VV P [o] al H (fun al' _=>VT P b0 base ios B K Gp s al' H) (fun _ _ _=>False)):VT P b0 base ios B K Gp (.quiet i s) al H:=by
 refine ⟨fun S hS=>?_⟩
 obtain ⟨v,rd,h1,h2⟩:=z4J (K:=fun al' _=>VT P b0 base ios B K Gp s al' H) hq h.1
 simp only [vsL,ho,h1]
 refine h2.1 _ fun r hr'=>?_
 cases rd with
 | none=>exact hS r hr'
 | some q =>
  obtain ⟨n,u⟩:=q
  rcases lAV.1 hr' with rfl | hr'
  ·exact ⟨hr _ _ _ h1,z8Y h1⟩
  ·exact hS r hr'
theorem hr_d {d:Option Nat} {op:DOp} {as_:List Arg} {r:Option Nat}:∀ v n x,z0q ⟨d,.i (.d op),as_,none,r⟩ al H=some (v,some (n,x))→zHQ b0 x=true:=by
 intro v n x h
 simp only [z0q,z1x] at h
 split at h
 ·injection h with h;injection h with _ h;cases h
 ·cases h
theorem hr_l {d:Option Nat} {k:Option Nat} {a:Arg} {r:Option Nat} (hok:zHQ b0 (evL al a)=true):∀ v n x,z0q ⟨d,.i (.m (.load k)),[a],none,r⟩ al H=some (v,some (n,x))→zHQ b0 x=true:=by
 intro v n x h
 simp only [z0q,z1x,z1G] at h
 split at h
 ·injection h with h;injection h with _ h;injection h with h;injection h with _ h;subst h;exact hok
 ·cases h
theorem zYn {i:Nat} {o:IOper} (ho:ios[i]? =some o) (hr:o.res=none) (hb:base≤H.length)
  (h:VV P [o] al H (fun al' H'=>(∀ n x v,zHQ b0 x=true→z0p n x H=some v→z0p n x H'=some v)∧VT P b0 base ios B K Gp s al' H') (fun _ v _=>Gp v)) :
  VT P b0 base ios B K Gp (.branch i s .stop) al H:=by
 refine ⟨fun S hS=>?_⟩
 have hrr:rOf base o H=H.length:=by simp [rOf,hr]
 simp only [vsL,ho,hrr]
 refine ⟨⟨?_,lCM hb,?_⟩,trivial⟩
 ·simp [z9Y]
 ·refine z8h.vopL_mono h.1 ?_ (fun _ _ _ q=>q)
  rintro al' H' ⟨hpres,q⟩
  have hS':∀ r∈S,zHQ b0 r.x=true∧z0p r.n r.x H'=some r.v:=fun r hr=>⟨(hS r hr).1,hpres _ _ _ (hS r hr).1 (hS r hr).2⟩
  refine ⟨?_,q.1 S hS'⟩
  unfold z5v
  rw [ho]
  simp only
  split
  ·trivial
  ·exact fun r hr _=>(hS' r hr).2
theorem zTv {ks:List Nat} {al':AL} (hk:z1g al ks=al') (h:Q .normal al' H):VT P b0 base ios B (fun a h=>Q .normal (z1g a ks) h) Gp .done al H:=⟨fun _ _=>by subst hk;exact h⟩
theorem zJn {ks:List Nat} (b0:Nat) (h:VT P b0 H.length ios B (fun a h=>Q .normal (z1g a ks) h) (fun _=>False) s al H):WI P (.draw 0 ios B s (some ks)) Q al H:=by
 refine ⟨⟨fun _=>False,fun _ _ f=>f.elim,?_⟩⟩
 have:z1P H 0=H:=by simp [z1P]
 rw [this]
 exact h.1 [] (by simp)
theorem zSE {H':z0B} {Qp:AL→AV→z0B→Prop} (h:VT P b0 base ios B K Gp s al H'):VV P [] al H (fun a _=>VT P b0 base ios B K Gp s a H') Qp:=⟨h⟩
theorem zAL {H':z0B} {Qp:AL→AV→z0B→Prop} (hp:∀ n x v,zHQ b0 x=true→z0p n x H'=some v→z0p n x H=some v) (h:VT P b0 base ios B K Gp s al H) :
  VV P [] al H (fun a h=>(∀ n x v,zHQ b0 x=true→z0p n x H'=some v→z0p n x h=some v)∧VT P b0 base ios B K Gp s a h) Qp:=⟨⟨hp,h⟩⟩
theorem zNg {H0 H H':z0B} (h:Ext H0 H) (h':Ext H0 H'):∀ n x v,zHQ H0.length x=true→z0p n x H=some v→z0p n x H'=some v:=by
 intro n x v ho hl
 obtain ⟨G,rfl⟩:=h
 obtain ⟨G',rfl⟩:=h'
 cases x with
 | ptr j off =>
  have hj:j<H0.length:=by simpa [zHQ,lDT] using ho
  simp only [z0p,lAN hj] at hl ⊢
  exact hl
 | _=>exact hl
end vt
section steps
variable {P:Program} {H:z0B} {al:AL} {K:KL} {Qp:AL→AV→z0B→Prop} {os:List IOper} {d:Nat} {x y:Arg}
theorem zPv {H0:z0B} {v:AV} {l ys:List (List UInt8)} (hx:evL al x=v) (ho:zEg H0 H v l) (hy:z1m 1 H (evL al y)=some (ys.length,ys.map .str)) (hb:l.length+ys.length≤1000000000)
  (h:∀ v' H',zEg H0 H' v' (l++ys)→H.length≤H'.length→VV P os ((d,v')::al) H' K Qp):VV P (⟨some d,.i (.m (.append 1 16)),[x,y],none,none⟩::os) al H K Qp:=by
 obtain ⟨h1,h2⟩:=ho
 rcases h2 with ⟨rfl,rfl⟩ | ⟨id,rfl,h3,h4,h5⟩
 ·cases ys with
  | nil=>exact zAM (ys:=[]) hx hy rfl (h _ _ ⟨h1,.inl ⟨rfl,rfl⟩⟩ (lAL _))
  | cons s ys =>
   refine z3x hx hy (by simp) (z7D _) (by simp at hb ⊢;omega) (h _ _ ⟨h1.app _,.inr ⟨_,rfl,?_,h1.len,by simp⟩⟩ (by simp))
   rw [lAM (lAL _),lBG];rfl
 ·refine z4G hx h3 (by simp) hy (z7D _) (by omega) (h _ _ ⟨(h1.set h4).app _,.inr ⟨_,by rw [lAH],?_,h1.len,by simp [h5]⟩⟩ (by simp))
  rw [lAM (by simp)]
  simp
  exact lAQ (by simp)
end steps
theorem zLv {g n:Prop} (k:n) (h:Hide n→g:=by (intro k);(repeat (first | ((with_reducible apply z8K);focus (first | exact z3F | (apply z3E;(repeat (first | exact z0Y | (apply z0Q;focus exact rfl) | exact lk_nil))))) | ((with_reducible apply z9H);(focus (first | exact z3F | (apply z3E;(repeat (first | exact z0Y | (apply z0Q;focus exact rfl) | exact lk_nil)))));(focus assumption);exact rfl;(focus assumption)) | ((with_reducible apply z9G);(focus (first | exact z3F | (apply z3E;(repeat (first | exact z0Y | (apply z0Q;focus exact rfl) | exact lk_nil)))));(focus assumption);exact rfl;(focus assumption)) | ((with_reducible apply z5B);exact rfl;exact rfl) | ((with_reducible apply z5C);exact rfl) | ((with_reducible apply zCa);exact rfl;exact rfl) | ((with_reducible apply zCj);exact rfl;exact rfl) | ((with_reducible apply st_field);exact rfl;exact rfl) | ((with_reducible apply z4C);exact rfl;exact rfl) | ((with_reducible apply zCf);exact rfl;exact rfl) | ((with_reducible apply zCb);exact rfl;exact rfl) | ((with_reducible apply zCg);exact rfl;exact rfl) | ((with_reducible apply zCX);exact rfl;exact rfl) | ((with_reducible apply zCh);exact rfl;exact rfl) | ((with_reducible apply zCW);exact rfl;exact rfl) | ((with_reducible apply zCZ);exact rfl;exact rfl) | ((with_reducible apply zCe);exact rfl;exact rfl) | ((with_reducible apply zCU);exact rfl) | ((with_reducible apply z5F);exact rfl;exact rfl) | ((with_reducible apply z2W);exact rfl;exact rfl) | ((with_reducible apply zCc);(focus (first | exact z3F | (apply z3E;(repeat (first | exact z0Y | (apply z0Q;focus exact rfl) | exact lk_nil)))));(focus assumption)) | ((with_reducible apply z9m);(focus (first | exact z3F | (apply z3E;(repeat (first | exact z0Y | (apply z0Q;focus exact rfl) | exact lk_nil)))));(focus assumption);exact rfl;(focus assumption)) | ((with_reducible apply z5D);exact rfl;exact rfl;(focus assumption)) | ((with_reducible apply z1v);exact rfl;exact rfl;exact rfl;exact rfl;exact rfl;(focus (first | exact rfl | exact z7x));exact rfl) | ((with_reducible apply z5A);exact rfl;exact rfl;exact rfl) | ((with_reducible apply z6p);exact rfl;(focus (first | assumption | exact z0G (by assumption)));exact rfl) | ((with_reducible apply z5g);exact rfl;exact rfl) | ((with_reducible apply z3a);exact rfl;(focus (first | exact z3F | (apply z3E;(repeat (first | exact z0Y | (apply z0Q;focus exact rfl) | exact lk_nil)))));exact rfl;exact rfl;exact rfl;exact rfl) | ((with_reducible apply z5f);exact rfl;exact rfl;exact rfl) | ((with_reducible apply z1s);exact rfl;(focus (first | assumption | exact z0G (by assumption)));exact rfl) | ((with_reducible apply zAt);(focus (first | exact z3F | (apply z3E;(repeat (first | exact z0Y | (apply z0Q;focus exact rfl) | exact lk_nil)))));exact rfl;exact rfl;exact rfl) | ((with_reducible apply z5E);exact rfl) | ((with_reducible apply z6q);exact rfl) | ((with_reducible apply z3U);exact rfl;exact rfl;(focus (first | decide | omega))) | ((with_reducible apply zCd);exact rfl;(focus omega)) | ((with_reducible apply vt_q);exact rfl;exact rfl;(focus (first | exact hr_d | exact hr_l rfl | exact hr_l (hokp _)))) | (with_reducible apply zSE) | ((with_reducible apply zTv);focus (repeat (first | exact z6Z | ((with_reducible apply kp);focus (repeat (first | exact z0Y | (apply z0Q;focus exact rfl) | exact lk_nil))))))));(exact k.h)):g:=h ⟨k⟩
theorem zTu {g n:Prop} (k:n) (h:Hide n→g:=by (intro k);(repeat (first | ((with_reducible apply z8K);focus (first | exact z3F | (apply z3E;(repeat (first | exact z0Y | (apply z0Q;focus exact rfl) | exact lk_nil))))) | ((with_reducible apply z9H);(focus (first | exact z3F | (apply z3E;(repeat (first | exact z0Y | (apply z0Q;focus exact rfl) | exact lk_nil)))));(focus assumption);exact rfl;(focus assumption)) | ((with_reducible apply z9G);(focus (first | exact z3F | (apply z3E;(repeat (first | exact z0Y | (apply z0Q;focus exact rfl) | exact lk_nil)))));(focus assumption);exact rfl;(focus assumption)) | ((with_reducible apply z5B);exact rfl;exact rfl) | ((with_reducible apply z5C);exact rfl) | ((with_reducible apply zCa);exact rfl;exact rfl) | ((with_reducible apply zCj);exact rfl;exact rfl) | ((with_reducible apply st_field);exact rfl;exact rfl) | ((with_reducible apply z4C);exact rfl;exact rfl) | ((with_reducible apply zCf);exact rfl;exact rfl) | ((with_reducible apply zCb);exact rfl;exact rfl) | ((with_reducible apply zCg);exact rfl;exact rfl) | ((with_reducible apply zCX);exact rfl;exact rfl) | ((with_reducible apply zCh);exact rfl;exact rfl) | ((with_reducible apply zCW);exact rfl;exact rfl) | ((with_reducible apply zCZ);exact rfl;exact rfl) | ((with_reducible apply zCe);exact rfl;exact rfl) | ((with_reducible apply zCU);exact rfl) | ((with_reducible apply z5F);exact rfl;exact rfl) | ((with_reducible apply z2W);exact rfl;exact rfl) | ((with_reducible apply zCc);(focus (first | exact z3F | (apply z3E;(repeat (first | exact z0Y | (apply z0Q;focus exact rfl) | exact lk_nil)))));(focus assumption)) | ((with_reducible apply z9m);(focus (first | exact z3F | (apply z3E;(repeat (first | exact z0Y | (apply z0Q;focus exact rfl) | exact lk_nil)))));(focus assumption);exact rfl;(focus assumption)) | ((with_reducible apply z5D);exact rfl;exact rfl;(focus assumption)) | ((with_reducible apply z1v);exact rfl;exact rfl;exact rfl;exact rfl;exact rfl;(focus (first | exact rfl | exact z7x));exact rfl) | ((with_reducible apply z5A);exact rfl;exact rfl;exact rfl) | ((with_reducible apply z6p);exact rfl;(focus (first | assumption | exact z0G (by assumption)));exact rfl) | ((with_reducible apply z5g);exact rfl;exact rfl) | ((with_reducible apply z3a);exact rfl;(focus (first | exact z3F | (apply z3E;(repeat (first | exact z0Y | (apply z0Q;focus exact rfl) | exact lk_nil)))));exact rfl;exact rfl;exact rfl;exact rfl) | ((with_reducible apply z5f);exact rfl;exact rfl;exact rfl) | ((with_reducible apply z1s);exact rfl;(focus (first | assumption | exact z0G (by assumption)));exact rfl) | ((with_reducible apply zAt);(focus (first | exact z3F | (apply z3E;(repeat (first | exact z0Y | (apply z0Q;focus exact rfl) | exact lk_nil)))));exact rfl;exact rfl;exact rfl) | ((with_reducible apply z5E);exact rfl) | ((with_reducible apply z6q);exact rfl) | ((with_reducible apply z3U);exact rfl;exact rfl;(focus (first | decide | omega))) | ((with_reducible apply zCd);exact rfl;(focus omega)) | ((with_reducible apply z8M);focus (repeat (first | exact z6Z | ((with_reducible apply kp);focus (repeat (first | exact z0Y | (apply z0Q;focus exact rfl) | exact lk_nil)))))) | ((with_reducible apply zLx);focus (repeat (first | exact z6Z | ((with_reducible apply kp);focus (repeat (first | exact z0Y | (apply z0Q;focus exact rfl) | exact lk_nil)))))) | ((with_reducible apply zZA);exact rfl;exact rfl) | ((with_reducible apply zZB);exact rfl;exact rfl;(focus exact lAL _)) | ((with_reducible apply zHD)) | (with_reducible apply zHC) | ((with_reducible apply z8H);(focus (first | exact rfl | exact congrArg AV.bool (by assumption)));(focus (first | exact z3F | (apply z3E;(repeat (first | exact z0Y | (apply z0Q;focus exact rfl) | exact lk_nil)))))) | ((with_reducible apply z8J);(focus (first | exact rfl | exact congrArg AV.bool (by assumption)));(focus (first | exact z3F | (apply z3E;(repeat (first | exact z0Y | (apply z0Q;focus exact rfl) | exact lk_nil)))))) | ((with_reducible apply z6M);(focus (first | exact rfl | exact congrArg AV.bool (by assumption)))) | ((with_reducible apply zFA);(focus (first | exact rfl | exact congrArg AV.bool (by assumption)))) | ((with_reducible apply zFB);(focus (first | exact rfl | exact congrArg AV.bool (by assumption)))) | ((with_reducible apply zCV);exact rfl) | with_reducible refine z1E ?_ | with_reducible refine z0V ?_ | with_reducible refine zJb ?_ | with_reducible refine z7m ?_ | with_reducible refine z8j ?_ | with_reducible refine zGD ?_ | with_reducible refine zBW ?_ | with_reducible refine zUL ?_ | with_reducible refine zUM ?_ | with_reducible refine zYb ?_ | with_reducible refine zYa ?_ | with_reducible refine zYZ ?_ | with_reducible refine bk_y rfl ?_ | ((with_reducible apply zGC);(focus (first | exact rfl | exact congrArg AV.bool (by assumption)))) | ((with_reducible apply zHa);(focus (first | exact rfl | exact congrArg AV.bool (by assumption)))) | refine z1E ?_));(exact k.h)):g:=h ⟨k⟩
theorem c29 (r:Ru) (hr:okR r) (hb:(z7y r).length≤1000000000) (H:z0B):z0C PP 63 [z6F r] H (z1D H (z0X ⟨true,z7y r⟩)):=by
 obtain ⟨kind,pn,pairs,ln,places,below⟩:=r
 obtain ⟨hnp,hnl,hps,hls⟩:=hr
 simp only at hnp hnl hps hls
 have hsp:=zCB pn pairs
 have hsl:=zHF ln places
 have hlp:(pairs.map z2e).length=pairs.length:=lAD _
 have hll:(places.map z1L).length=places.length:=lAD _
 have hocc:z7y ⟨kind,pn,pairs,ln,places,below⟩=zAR pairs++zBP places:=rfl
 rw [hocc] at hb ⊢
 rw [lAH] at hb
 unfold z6F
 refine z0C.gives (is63.c1 z0P mixed rfl ?_)
 refine z0F ?_
 have hB0:(H++[.cells [.int .i64 kind,z0T pn pairs,z0U ln places,.bool below]])[H.length+0]? =some (.cells [.int .i64 kind,z0T pn pairs,z0U ln places,.bool below]):=z1S
 have hend:∀ {H' v l'},zEg (H++[.cells [.int .i64 kind,z0T pn pairs,z0U ln places,.bool below]]) H' v l'→zCL H (z0X ⟨true,l'⟩) (.ret v) H':=fun h=>h.ends
 have hO0:zEg (H++[.cells [.int .i64 kind,z0T pn pairs,z0U ln places,.bool below]]) (H++[.cells [.int .i64 kind,z0T pn pairs,z0U ln places,.bool below]]) .nilslice []:=.nil (.refl _)
 refine z0H pairs.length (fun i al H'=>∃ ov,al=[(1,.ptr (H.length+0) 0),(3,ov),(4,.int .i64 i)]∧zEg (H++[.cells [.int .i64 kind,z0T pn pairs,z0U ln places,.bool below]]) H' ov (zAR (pairs.take i))) ⟨_,rfl,hO0⟩ ?_
 have hlt0:H.length+0<(H++[Blk.cells [.int .i64 kind,z0T pn pairs,z0U ln places,.bool below]]:z0B).length:=by simp
 generalize (H++[.cells [.int .i64 kind,z0T pn pairs,z0U ln places,.bool below]]:z0B)=H0 at *
 clear hO0
 rintro i _ H1 hi ⟨ov,rfl,hO⟩
 have hB:=hO.1.get hB0
 refine z0F ?_
 refine z0R _ rfl ?_ ?_<;>intro hc
 ·simp only [lAE] at hc
  obtain ⟨c,hc⟩:=z0M (l:=pairs) (i:=i) (by omega)
  have hu:(pairs.map z2e)[i]? =some (.agg [z0X c.a,z0X c.b]):=z1A (f:=z2e) hc
  have ht:zAR (pairs.take (i+1))=zAR (pairs.take i)++c.a.l++c.b.l:=by
   rw [z3G hc,zAR,lCN]
   simp [zAR]
  have hle:(zAR (pairs.take (i+1))).length≤(zAR pairs).length:=by
   have:pairs=pairs.take (i+1)++pairs.drop (i+1):=(lC1 _ _).symm
   conv=>rhs;rw [this]
   rw [zAR,zAR,lCN,lAH];omega
  rw [ht,lAH,lAH] at hle
  have hokp:∀ off,zHQ H0.length (.ptr (H.length+0) off)=true:=by intro off;simp [zHQ,lDT];simpa using hlt0
  have hsa:=z5h c.a
  have hsb:=z5h c.b
  refine zTu ?_
  refine zJn H0.length ?_
  refine zLv ?_
  refine zYn rfl rfl (lAL _) ?_
  refine zPv rfl hO (hsa _) (by omega) ?_
  intro v1 H2 hO2 hlen2
  refine zAL (zNg hO.1 hO2.1) ?_
  refine zYn rfl rfl hlen2 ?_
  refine zAu rfl hO2 (hsb _) (by rw [lAH];omega) ?_
  intro v2 H3 hO3
  refine zAL (zNg hO2.1 hO3.1) ?_
  refine zLv ?_
  refine z0F ?_
  exact ⟨by omega,_,rfl,by rw [ht];exact hO3⟩
 simp only [lAC] at hc
 have:i=pairs.length:=by omega
 subst this
 rw [lAW] at hO
 clear hi hc
 generalize zAR pairs=pre at *
 refine z0F ?_
 refine z0H places.length (fun i al H'=>∃ ov,al=[(1,.ptr (H.length+0) 0),(3,ov),(5,.int .i64 i)]∧zEg H0 H' ov (pre++zBP (places.take i))) ⟨ov,rfl,by simpa [zBP] using hO⟩ ?_
 clear hO hB H1 ov
 rintro i _ H1 hi ⟨ov,rfl,hO⟩
 have hB:=hO.1.get hB0
 refine z0F ?_
 refine z0R _ rfl ?_ ?_<;>intro hc
 ·simp only [lAE] at hc
  obtain ⟨c,hc⟩:=z0M (l:=places) (i:=i) (by omega)
  have hok:=hls _ (lAF hc)
  have ht:zBP (places.take (i+1))=zBP (places.take i)++z1d c.1++z1d c.2:=by
   rw [z3G hc,zBP,lCN]
   simp [zBP]
  have hle:(zBP (places.take (i+1))).length≤(zBP places).length:=by
   have:places=places.take (i+1)++places.drop (i+1):=(lC1 _ _).symm
   conv=>rhs;rw [this]
   rw [zBP,zBP,lCN,lAH];omega
  rw [ht,lAH,lAH] at hle
  have k1:=fun H=>c64 c.1 hok.1 (by omega) H
  have k2:=fun H=>c64 c.2 hok.2 (by omega) H
  generalize z1d c.1=y1 at *
  generalize z1d c.2=y2 at *
  obtain ⟨⟨o1,s1,n1,l1⟩,⟨o2,s2,n2,l2⟩⟩:=c
  have hu:(places.map z1L)[i]? =some (.agg [.int .i64 o1,.str s1,lst n1 l1,.int .i64 o2,.str s2,lst n2 l2]):=z1A (f:=z1L) hc
  simp only [z0e] at k1 k2
  refine z0F ?_
  refine z0J rfl (k1 _) ?_
  refine zAu rfl hO (z5h ⟨true,_⟩ _) (by rw [lAH];simp only;omega) ?_
  intro v1 H2 hO2
  have hB2:=hO2.1.get hB0
  refine z0F ?_
  refine z0J rfl (k2 _) ?_
  refine zAu rfl hO2 (z5h ⟨true,_⟩ _) (by rw [lAH,lAH];simp only;omega) ?_
  intro v2 H3 hO3
  refine z0F ?_
  refine ⟨by omega,_,rfl,?_⟩
  rw [ht,←lA3,←lA3];exact hO3
 simp only [lAC] at hc
 have:i=places.length:=by omega
 subst this
 rw [lAW] at hO
 refine z0F ?_
 exact z0W rfl (hend hO)
theorem zSf (op:Int) (n:Nat) (h:n≤39) (s:List UInt8):(zBM op||z1r (zEC op) op s n)=(z3M (z6C op) op s n||z7T op s):=by
 unfold z1r z3M z7T
 rcases zHP op with h1 | h1
 ·rcases h1 with rfl | rfl | rfl | rfl | rfl | rfl | rfl | rfl | rfl | rfl | rfl | rfl | rfl | rfl | rfl | rfl
  all_goals simp [zBM,z6C,zEC,show ¬ (40:Int)<(n:Int) by omega]
 ·have e1:zBM op=true:=by
   unfold zBM
   rcases h1 with h1 | h1
   ·simp [h1]
   ·simp;right;omega
  have e:z6C op=(0,0,false):=by
   unfold z6C
   rw [if_neg (by omega),if_neg (by omega),if_neg (by omega),if_neg (by omega),if_neg (by omega)]
  rw [e1,e]
  simp
mutual
theorem zJZ:∀ e:Ex,e.size≤40→e.right2=e.right
 | .mk op s nl l,h=>by
  simp only [Ex.size] at h
  have hl:=z1U l
  have h1:=zFR l (by omega)
  have h2:=zSf op l.length (by omega) s
  simp only [Ex.right2,Ex.right,h1]
  rw [←Bool.not_or,←Bool.not_or,h2]
theorem zFR:∀ l:List Ex,z0Z l≤40→z9N l=z6U l
 | [],_=>rfl
 | x::xs,h=>by
  simp only [z0Z] at h
  simp only [z9N,z6U,zJZ x (by omega),zFR xs (by omega)]
end
theorem zPg (e:Ex):z4w e=z5y e:=by
 unfold z4w z5y
 by_cases h:(decide ((e.size:Int)>40)||decide ((e.deep:Int)>12))=true
 ·rw [if_pos h,if_pos h]
 ·rw [if_neg h,if_neg h]
  simp only [lB2,lAE,not_or] at h
  rw [zJZ e (by omega)]
theorem zPf (r:Ru):zAZ r=zBz r:=by
 have hv:z4w=z5y:=funext zPg
 unfold zAZ zBz
 rw [hv]
 have hf:zEK r=(zBZ r||z7X r.pairs):=by
  unfold zEK zBZ
  congr 1
  rcases r with ⟨kind,pn,pairs,ln,places,below⟩
  simp only
  by_cases h0:kind<0
  ·simp [h0]
  ·by_cases h3:kind>3
   ·simp [h3]
   ·have:(decide (kind<2))=((kind != 2)&&(kind != 3)):=by
     have:kind=0∨kind=1∨kind=2∨kind=3:=by omega
     rcases this with rfl | rfl | rfl | rfl<;>rfl
    rw [this,Bool.and_assoc]
 rw [hf]
 cases zBZ r<;>cases z7X r.pairs<;>simp
abbrev Bt:=List UInt8
mutual
def nf:Ex→Nat
 | .mk _ s _ l=>nfs (1+s.length) l
def nfs:Nat→List Ex→Nat
 | n,[]=>n
 | n,x::xs=>if n≤24000 then nfs (n+nf x) xs else n
end
mutual
theorem zQW:∀ e:Ex,nf e≤e.w
 | .mk _ s _ l=>by simp only [nf,Ex.w];exact zRV (1+s.length) l
theorem zRV:∀ (n:Nat) (l:List Ex),nfs n l≤n+ws l
 | n,[]=>by simp [nfs,ws]
 | n,x::xs=>by
  have:=zQW x
  have:=zRV (n+nf x) xs
  simp only [nfs,ws];split<;>omega
end
theorem zRt {l:List Ex} {i:Nat} {x:Ex} (h:l[i]? =some x):ws (l.take (i+1))=ws (l.take i)+x.w:=by
 induction l generalizing i with
 | nil=>simp at h
 | cons y ys ih =>
  cases i with
  | zero=>simp at h;subst h;simp [ws]
  | succ i=>simp only [lBV,ws];rw [ih (by simpa using h)];omega
theorem zRu:∀ (l:List Ex) (i:Nat),ws (l.take i)≤ws l
 | [],i=>by simp
 | x::xs,0=>by simp [ws]
 | x::xs,i+1=>by simp only [lBV,ws];have:=zRu xs i;omega
theorem c25 (e:Ex) (he:okE e) (H:z0B):z0C PP 14 [enc e] H (z1D H (.int .i64 (nf e))):=by
 match e,he with
 | .mk op s nl l,he =>
  have hs:=z5G nl l
  have hl:(l.map enc).length=l.length:=lAD _
  have hll:=zDx he
  have hw:1+s.length+ws l≤1000000000000:=by unfold okE at he;simp only [Ex.w] at he;omega
  have hn:nf (.mk op s nl l)=nfs (1+s.length) l:=rfl
  rw [z0e,hn]
  refine z0C.gives (is14.c1 z0P mixed rfl ?_)
  refine z0F ?_
  refine z1N (a:=1) (b:=s.length) (by rfl) (by rfl) (by omega) ?_
  refine z0F ?_
  refine z0H l.length (fun i al H'=>∃ n:Nat,al=[(1,.ptr (H.length+0) 0),(3,.int .i64 n),(4,.int .i64 i)]∧H'=H++[.cells [.int .i64 op,.str s,lst nl l]]∧n≤1+s.length+ws (l.take i)∧nfs (1+s.length) l=nfs n (l.drop i)) ⟨_,rfl,rfl,by omega,rfl⟩ ?_
  rintro i _ _ hi ⟨n,rfl,rfl,hnb,hv⟩
  have hwi:=zRu l i
  refine z0F ?_
  cases hc:decide ((i:Int)<((l.map enc).length:Int))
  ·simp only [lAC] at hc
   have:i=l.length:=by omega
   subst this
   rw [lDK] at hv
   rw [hv]
   refine z0F ?_
   exact fr
  ·simp only [lAE] at hc
   obtain ⟨c,hcg⟩:=z0M (l:=l) (i:=i) (by omega)
   have hu:=z1A (f:=enc) hcg
   have hm:=lAF hcg
   rw [z2a hcg] at hv
   simp only [nfs] at hv
   refine z0F ?_
   refine z0R _ rfl ?_ ?_<;>intro hq
   ·simp only [lAE] at hq
    rw [if_pos (by omega)] at hv
    have ih:=fun H=>c25 c (z5k he hm) H
    have h1:=zRt hcg
    have h2:=zRu l (i+1)
    have h3:=zQW c
    obtain ⟨op',s',nl',l'⟩:=c
    rw [z0e] at hu ih
    refine z0F ?_
    refine z0J rfl (ih _) ?_
    refine z1N (a:=n) (b:=nf (.mk op' s' nl' l')) (by rfl) (by rfl) (by omega) ?_
    refine z0F ?_
    exact ⟨by omega,_,rfl,rfl,by omega,hv⟩
   ·simp only [lAC] at hq
    rw [if_neg (by omega)] at hv
    rw [hv]
    refine z0F ?_
    exact fr
termination_by SizeOf.sizeOf e
decreasing_by exact z3L (by assumption)
def nw:Nat→List Bt→Nat
 | n,[]=>n
 | n,s::w=>if n≤24000 then nw (n+s.length) w else n
def tot:List Bt→Nat
 | []=>0
 | s::w=>s.length+tot w
theorem zMz:∀ (n:Nat) (w:List Bt),nw n w≤n+tot w
 | n,[]=>by simp [nw]
 | n,x::xs=>by have:=zMz (n+x.length) xs;simp only [nw,tot];split<;>omega
theorem zDY {l:List Bt} {i:Nat} {x:Bt} (h:l[i]? =some x):tot (l.take (i+1))=tot (l.take i)+x.length:=by
 induction l generalizing i with
 | nil=>simp at h
 | cons y ys ih =>
  cases i with
  | zero=>simp at h;subst h;simp [tot]
  | succ i=>simp only [lBV,tot];rw [ih (by simpa using h)];omega
theorem zAd:∀ (l:List Bt) (i:Nat),tot (l.take i)≤tot l
 | [],i=>by simp
 | x::xs,0=>by simp [tot]
 | x::xs,i+1=>by simp only [lBV,tot];have:=zAd xs i;omega
def nww (n:Nat) (a:List Bt):Nat:=nw (n+a.length) a
abbrev okT (w:List Bt):Prop:=w.length+tot w≤1000000000000
theorem c24 {a b:Wd} (ha:okT a.l) (hb:okT b.l) {id:Nat} {H:z0B} (hg:H[id]? =some (.cells [z0X a,z0X b])) :
  z0C PP 6 [.sl id 0 2 1] H (z1D H (.int .i64 (nww (nww 0 a.l) b.l))):=by
 have hg:(H++[])[id]? =some (.cells [z0X a,z0X b]):=z0G hg
 have sa:=z6S a
 have sb:=z6S b
 unfold okT at ha hb
 have la:(a.l.map AV.str).length=a.l.length:=lAD _
 have lb:(b.l.map AV.str).length=b.l.length:=lAD _
 have na:=zMz (0+a.l.length) a.l
 have nb:=zMz (nww 0 a.l+b.l.length) b.l
 have e1:nww 0 a.l=nw (0+a.l.length) a.l:=rfl
 refine z0C.gives (is6.c1 z0P mixed rfl ?_)
 refine z0F ?_
 refine z6w (fun al H'=>al=[(0,.sl id 0 2 1),(3,.int .i64 (0:Nat)),(4,.int .i64 (0:Nat))]∧H'=H++[]) (fun al H'=>al=[(0,.sl id 0 2 1),(3,.int .i64 (nww 0 a.l:Nat)),(4,.int .i64 (1:Nat))]∧H'=H++[])
  (fun al H'=>al=[(0,.sl id 0 2 1),(3,.int .i64 (nww (nww 0 a.l) b.l:Nat)),(4,.int .i64 (2:Nat))]∧H'=H++[]) ⟨rfl,rfl⟩ ?_ ?_ ?_
 ·rintro _ _ ⟨rfl,rfl⟩
  refine z0F ?_
  refine z1N (a:=0) (b:=(a.l.map AV.str).length) (by rfl) (by rfl) (by omega) ?_
  refine z0F ?_
  refine z0H a.l.length (fun j al H'=>∃ n:Nat,al=[(0,.sl id 0 2 1),(3,.int .i64 n),(4,.int .i64 (0:Nat)),(5,.int .i64 j)]∧H'=H++[]∧n≤0+a.l.length+tot (a.l.take j)∧nww (0) a.l=nw n (a.l.drop j)) ⟨_,rfl,rfl,by rw [la];omega,by rw [la];rfl⟩ ?_
  rintro j _ _ hj ⟨n,rfl,rfl,hnb,hv⟩
  have ht:=zAd a.l j
  refine z0F ?_
  cases hc:decide ((j:Int)<((a.l.map AV.str).length:Int))
  ·simp only [lAC] at hc
   rw [lDE (by omega)] at hv
   refine z0F ?_
   exact ⟨by rw [hv];rfl,rfl⟩
  ·simp only [lAE] at hc
   obtain ⟨c,hcg⟩:=z0M (l:=a.l) (i:=j) (by omega)
   have hu:=z1A (f:=AV.str) hcg
   rw [z2a hcg] at hv
   simp only [nw] at hv
   refine z0F ?_
   refine z0R _ rfl ?_ ?_<;>intro hq
   ·simp only [lAE] at hq
    rw [if_pos (by omega)] at hv
    have h1:=zDY hcg
    have h2:=zAd a.l (j+1)
    refine z0F ?_
    refine z1N (a:=n) (b:=c.length) (by rfl) (by rfl) (by omega) ?_
    refine z0F ?_
    exact ⟨by omega,_,rfl,rfl,by omega,hv⟩
   ·simp only [lAC] at hq
    rw [if_neg (by omega)] at hv
    refine z0F ?_
    exact ⟨by rw [hv];rfl,rfl⟩
 ·rintro _ _ ⟨rfl,rfl⟩
  refine z0F ?_
  refine z1N (a:=nww 0 a.l) (b:=(b.l.map AV.str).length) (by rfl) (by rfl) (by omega) ?_
  refine z0F ?_
  refine z0H b.l.length (fun j al H'=>∃ n:Nat,al=[(0,.sl id 0 2 1),(3,.int .i64 n),(4,.int .i64 (1:Nat)),(5,.int .i64 j)]∧H'=H++[]∧n≤nww 0 a.l+b.l.length+tot (b.l.take j)∧nww (nww 0 a.l) b.l=nw n (b.l.drop j)) ⟨_,rfl,rfl,by rw [lb];omega,by rw [lb];rfl⟩ ?_
  rintro j _ _ hj ⟨n,rfl,rfl,hnb,hv⟩
  have ht:=zAd b.l j
  refine z0F ?_
  cases hc:decide ((j:Int)<((b.l.map AV.str).length:Int))
  ·simp only [lAC] at hc
   rw [lDE (by omega)] at hv
   refine z0F ?_
   exact ⟨by rw [hv];rfl,rfl⟩
  ·simp only [lAE] at hc
   obtain ⟨c,hcg⟩:=z0M (l:=b.l) (i:=j) (by omega)
   have hu:=z1A (f:=AV.str) hcg
   rw [z2a hcg] at hv
   simp only [nw] at hv
   refine z0F ?_
   refine z0R _ rfl ?_ ?_<;>intro hq
   ·simp only [lAE] at hq
    rw [if_pos (by omega)] at hv
    have h1:=zDY hcg
    have h2:=zAd b.l (j+1)
    refine z0F ?_
    refine z1N (a:=n) (b:=c.length) (by rfl) (by rfl) (by omega) ?_
    refine z0F ?_
    exact ⟨by omega,_,rfl,rfl,by omega,hv⟩
   ·simp only [lAC] at hq
    rw [if_neg (by omega)] at hv
    refine z0F ?_
    exact ⟨by rw [hv];rfl,rfl⟩
 ·rintro _ _ ⟨rfl,rfl⟩
  refine z0F ?_
  exact fr
theorem Is.c0 {P:Program} {H:z0B} {f:FuncId} {anns:List Ann} {F:IFunc} {R:z2g} (hnn:z6j P) (hm:P.follows .mixedOrders=true) (hF:Is P f anns F) (hn:Nat.ble 0 F.n=true) (h:WI P F.body (z4P F.rs R) [] (H++[])):z0C P f [] H R:=by
 rw [lAJ] at h;exact hF.call hnn hm hn h.1
end Go.Ab
