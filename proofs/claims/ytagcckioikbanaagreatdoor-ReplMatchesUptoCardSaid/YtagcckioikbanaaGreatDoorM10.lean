/- Part 10 of the proof. -/
import Derived.Test.YtagcckioikbanaaGreatDoorM09
set_option linter.unusedVariables false
set_option linter.unusedSimpArgs false
namespace Go.Ab
variable {P:Program} {φ:Phi} {σ:Sig} {H:z0B} {w:World}
def zNV (listed:Array Bool):Nat:=listed.toList.countP (fun b=>!b)
theorem zHF {listed:Array Bool} {z:Nat} (h:listed[z]? =some false):zNV (listed.setIfInBounds z true)+1=zNV listed:=by
 unfold zNV
 rw [Array.toList_setIfInBounds]
 have hlt:z<listed.toList.length:=by
  rcases lBB z listed.size with h' | h'
  ·simpa using h'
  ·simp [lCX h'] at h
 have hg:listed.toList[z]=false:=by
  have:listed.toList[z]? =some false:=by simpa using h
  rw [lAG hlt] at this
  injection this
 rw [List.countP_set hlt]
 have hpos:0<listed.toList.countP (fun b=>!b):=List.countP_pos_iff.2 ⟨_,lBT hlt,by rw [hg];rfl⟩
 simp only [hg,Bool.not_false,if_true,lDL,lAV,if_false]
 omega
theorem zKG {base:Nat} {ops:Array Oper} {ios:List IOper} {B:List (List Nat)} {K:Env→z0B→Prop} {G:AV→Prop} {Qc:Exit→Act→World→Prop} (hnn:z6F P)
  (hb:zGp ops B=true) (ha:zBE ios B=true) (hio:∀ (i:Nat) (o:Oper) (io:IOper),ops[i]? =some o→ios[i]? =some io→zGn P ops o=some { io with res:=none })
  (ds:List Deferred) (φ₀:Phi) (σ₀:Sig) (H₀:z0B) (w₀:World)
  (hK:∀ φ' σ' env' H' a' w',Step φ₀ σ₀ H₀ w₀ φ' σ' H' w'→z1T base H₀ H'→ERel φ' σ' env' a'.tmps→a'.defers=ds→K env' H'→Qc .normal a' w')
  (hP:∀ φ' σ' env' H' a' w' v c,Step φ₀ σ₀ H₀ w₀ φ' σ' H' w'→z1T base H₀ H'→ERel φ' σ' env' a'.tmps→a'.defers=ds→VRel φ' σ' v c→G v→Qc (.panic [{ v:=c,recovered:=false }]) a' w')
  (hbase:base≤H₀.length) :
  ∀ (fuel:Nat) (listed:Array Bool) (s:Sched) (S:List Rd) φ σ env H (a:Act) w,z1X ops ios true listed s=true→zBF B listed→zNV listed≤fuel→listed.size=ops.size →
   Step φ₀ σ₀ H₀ w₀ φ σ H w→z1T base H₀ H→ERel φ σ env a.tmps→a.defers=ds→vs P base ios B K G s S env H→wpAny P .any ops Qc fuel listed a w:=by
 intro fuel
 induction fuel with
 | zero =>
  intro listed s S φ σ env H a w hs hc ht hsz st kp er hd hv
  have hre:Region.ready .any ops listed=[]:=by
   rw [List.eq_nil_iff_forall_not_mem]
   intro z hz
   obtain ⟨h0,o,ho,_⟩:=mem_ready.1 hz
   have hlt:z<listed.size:=by rw [hsz];exact (lD0.1 ho).1
   have h1:listed[z]? =some false:=by
    rw [lBY hlt]
    simp [Array.getD,hlt] at h0
    rw [h0]
   have:=zHF h1
   omega
  refine ⟨hre,?_⟩
  cases s with
  | done=>exact hK φ σ env H a w st kp er hd hv
  | stop=>simp [z1X] at hs
  | quiet i s=>simp [z1X,hre] at hs
  | branch i s r=>simp [z1X,hre] at hs
 | succ fuel ih =>
  intro listed s S φ σ env H a w hs hc ht hsz st kp er hd hv
  refine ⟨fun hre=>?_,fun z hz=>?_⟩
  ·cases s with
   | done=>exact hK φ σ env H a w st kp er hd hv
   | stop=>simp [z1X] at hs
   | quiet i s=>simp [z1X,hre] at hs
   | branch i s r=>simp [z1X,hre] at hs
  ·obtain ⟨h0,o,ho,_⟩:=mem_ready.1 hz
   have hlt:z<listed.size:=by rw [hsz];exact (lD0.1 ho).1
   have h1:listed[z]? =some false:=by
    rw [lBY hlt]
    simp [Array.getD,hlt] at h0
    rw [h0]
   have htodo:=zHF h1
   obtain ⟨io,s',hio',hs',hvz⟩:=zPh (P:=P) (base:=base) (K:=K) (G:=G) hb ha z s listed S env H (lBM hbase kp.1) hs hc hz hv
   have hv2:vop P { ({ io with res:=none }:IOper) with res:=none } (rOf base io H) env H (fun e H'=>zGL ios B S z H'∧vs P base ios B K G s' S e H') (Gp G):=hvz.2.2
   refine zDp (n:=base) (io:={ io with res:=none }) hnn ho (hio z o io ho hio') st.hrel er hvz.1 hvz.2.1 hv2 ?_ ?_
   ·intro φ' σ' env' H' a' w' s₂ kp₂ er₂ hd₂ hv₂
    exact ih (listed.setIfInBounds z true) s' S φ' σ' env' H' a' w' hs' (hc.set hb hz) (by omega) (by simpa using hsz) (st.trans s₂) (kp.trans kp₂) er₂ (hd₂.trans hd) hv₂.2
   ·intro φ' σ' H' w' v c s₂ kp₂ hvc hg
    exact hP φ' σ' env H' a w' v c (st.trans s₂) (kp.trans kp₂) (er.mono s₂.extP s₂.extS) hd hvc hg
def z1Q (H:z0B) (k:Nat):z0B:=H++List.replicate k .resv
theorem z6z {k i:Nat}:(z1Q H k)[i]? =if i<H.length then H[i]? else if i<H.length+k then some .resv else none:=by
 unfold z1Q
 by_cases h:i<H.length
 ·rw [if_pos h,lAN h]
 ·rw [if_neg h,lAJ (by omega),List.getElem?_replicate]
  by_cases h2:i<H.length+k
  ·rw [if_pos h2,if_pos (by omega)]
  ·rw [if_neg h2,if_neg (by omega)]
theorem zDu {k:Nat} (hr:HRel φ σ H w):Step φ σ H w φ σ (z1Q H k) w:=by
 have hg:∀ (i:Nat) (b:Blk),(z1Q H k)[i]? =some b→b.live=true→H[i]? =some b:=by
  intro i b h hl
  rw [z6z] at h
  split at h
  ·exact h
  ·split at h
   ·injection h with h;subst h;simp [Blk.live] at hl
   ·cases h
 refine ⟨.refl _,.refl _,rfl,rfl,rfl,lAL _,fun _ _ _=>rfl,?_,?_,hr.bnd,?_,?_,hr.sig,?_⟩
 ·rintro b ⟨i,bl,M,h1,h2,h3,rfl⟩
  exact .inr ⟨i,bl,M,hg _ _ h1 h2,h2,h3,rfl⟩
 ·intro i M h;have:=hr.dom i M h;simp [z1Q];omega
 ·intro i b h hl;exact hr.blk i b (hg _ _ h hl) hl
 ·intro i j b c M N h1 h2 h3 h4 h5 h6 h7
  exact hr.inj i j b c M N (hg _ _ h1 h2) h2 (hg _ _ h3 h4) h4 h5 h6 h7
 ·intro i h
  rw [z6z] at h
  split at h
  ·exact hr.resv _ h
  ·rename_i hi
   cases hp:φ i with
   | none=>rfl
   | some M=>exact absurd (hr.dom _ _ hp) hi
def z3x (ios:List IOper):List IOper:=ios.map fun io=>{ io with res:=none }
theorem zBA {ops:Array Oper}:∀ {os:List Oper} {l:List IOper},z8q P ops os=some l→l.length=os.length∧∀ (i:Nat) (o:Oper),os[i]? =some o→∃ io:IOper,l[i]? =some io∧zGn P ops o=some io
 | [],l,h=>by simp only [z8q] at h;injection h with h;subst h;exact ⟨rfl,fun i o h=>by simp at h⟩
 | o::os,l,h=>by
  simp only [z8q] at h
  split at h
  case h_2=>cases h
  rename_i x xs hx hxs
  injection h with h;subst h
  obtain ⟨h1,h2⟩:=zBA hxs
  refine ⟨by simp [h1],fun i o' ho=>?_⟩
  cases i with
  | zero=>simp at ho;subst ho;exact ⟨x,rfl,hx⟩
  | succ i=>simpa using h2 i o' (by simpa using ho)
theorem zQF {id k:Nat} {ops:Array Oper} {ios:List IOper} {B:List (List Nat)} {s:Sched} {Q:zJL} {env:Env} {G:AV→Prop} (hnn:z6F P) (hm:P.follows .mixedOrders=true)
  (hc:z8q P ops ops.toList=some (z3x ios)) (hb:zGp ops B=true) (ha:zBE ios B=true) (hs:z1X ops ios true (Array.replicate ops.size false) s=true)
  (hG:∀ v m H,G v→Q (.panic v) ⟨m,z2V []⟩ H)
  (hv:vs P H.length ios B (fun e H=>Q .normal e H) G s [] env (z1Q H k)):AWP P (.region id ops true) Q env H:=by
 intro φ σ a w hr er
 refine wp_region_any hm ?_
 have keeps:∀ H',z1T H.length H H'→z3a H H':=by
  intro H' kp
  refine ⟨kp.1,fun i h=>kp.2 i ?_ h⟩
  rcases lBB i H.length with h' | h'
  ·exact h'
  ·simp [h'] at h
 have st:Step φ σ H w φ σ H { w with drawn:=w.drawn+1 }:=z5g hr
 have st2:=st.trans (zDu (k:=k) st.hrel)
 refine zKG (base:=H.length) hnn hb ha ?_ a.defers φ σ H w ?_ ?_ (lAL _) ops.size _ s [] φ σ env (z1Q H k) a _ hs ?_ ?_ ?_ st2 ?_ er rfl hv
 ·intro i o io ho hio
  obtain ⟨h1,h2⟩:=zBA hc
  obtain ⟨io',h3,h4⟩:=h2 i o (by simpa using ho)
  simp only [z3x,lAM,hio,lBH] at h3
  injection h3 with h3
  rw [h3];exact h4
 ·intro φ' σ' env' H' a' w' s kp er' hd hq
  exact ⟨φ',σ',.normal,env',H',s,keeps _ kp,rfl,er',hd,hq⟩
 ·intro φ' σ' env' H' a' w' v c s kp er' hd hvc hq
  exact ⟨φ',σ',.panic v,⟨a'.tmps.size,z2V []⟩,H',s,keeps _ kp,⟨c,rfl,hvc⟩,⟨rfl,fun _=>.top _⟩,hd,hG _ _ _ hq⟩
 ·intro i hi
  simp only [lAR,Array.getElem?_replicate] at hi
  split at hi<;>simp at hi
 ·unfold zNV;exact lBM (List.countP_le_length) (by simp)
 ·simp
 ·refine ⟨by simp [z1Q],fun i hi h=>?_⟩
  rw [z6z,if_pos hi];exact h
end Go.Ab
