/- Part 38 of the proof. -/
import Derived.Test.YtgpnlpieipoogaaGreatDoorA37
set_option linter.unusedVariables false
set_option linter.unusedSimpArgs false
namespace Go.Ab
open Go
set_option maxRecDepth 100000
set_option maxHeartbeats 8000000
section steps
variable {P:Program} {H G:Heap} {al:AL} {K:KL} {Qp:AL→AV→Heap→Prop} {os:List IOper} {d:Nat} {x y z:Arg}
theorem st_mkMG (h:VV P os ((d,.map H.length)::al) (H++[.map [] 0]) K Qp):VV P (⟨some d,.i (.n (.makeMap false)),[],none,none⟩::os) al H K Qp:=by
 refine st_i ?_ h
 show some (AV.map H.length,put H H.length (.map [] 0))=_
 unfold put;rw [if_neg (by omega)]
theorem st_updG {M:Nat} {k:Bt} {v:AV} {es:Ents} {c:Nat} (hx:evL al x=.map M) (hy:evL al y=.str k) (hz:evL al z=v) (hg:H[M]? =some (.map es c))
  (hf:afind ⟨false,[.str]⟩ (.str k) es 0=some none) (h:VV P os al (H.set M (.map (es++[(.str k,v,c)]) (c+1))) K Qp) :
  VV P (⟨none,.i (.n (.update ⟨false,[.str]⟩)),[x,y,z],none,none⟩::os) al H K Qp:=by
 refine st_i0 (v:=.top) (H':=H.set M (.map (es++[(.str k,v,c)]) (c+1))) ?_ h
 have hm:mapAt H M=some (es,c):=by simp only [mapAt,hg]
 have hv:evsL al [x,y,z]=[.map M,.str k,v]:=by
  show [evL al x,evL al y,evL al z]=_
  rw [hx,hy,hz]
 have hk:keyOk ⟨false,[.str]⟩ (.str k)=true:=rfl
 show nsem (.update ⟨false,[.str]⟩) (evsL al [x,y,z]) H H.length=_
 rw [hv]
 simp only [nsem,hm,hk,if_true,hf]
theorem st_rangeG {M:Nat} {es:Ents} {c:Nat} (hx:evL al x=.map M) (hm:H[M]? =some (.map es c)) (h:VV P os ((d,.ptr H.length 0)::al) (H++[.iter (some M) c [] c]) K Qp) :
  VV P (⟨some d,.i (.n .range),[x],none,none⟩::os) al H K Qp:=by
 refine st_i ?_ h
 have e1:evsL al [x]=[.map M]:=by show [evL al x]=_;rw [hx]
 have e3:mapAt H M=some (es,c):=by simp only [mapAt,hm]
 show nsem .range (evsL al [x]) H H.length=_
 rw [e1]
 simp only [nsem,e3]
 unfold put;rw [if_neg (by omega)]
theorem st_nextG {it M n:Nat} {es:Ents} {seen:List Nat} (hx:evL al x=.ptr it 0) (hi:H[it]? =some (.iter (some M) n seen n)) (hm:H[M]? =some (.map es n)) (hall:∀ e∈es,e.2.2<n)
  (hdone:(∀ e∈es,e.2.2∈seen)→VV P os ((d,.tuple [.bool false])::al) H K Qp)
  (hnext:∀ e∈es,e.2.2∉seen→VV P os ((d,.tuple [.bool true,e.1,e.2.1])::al) (H.set it (.iter (some M) n (seen++[e.2.2]) n)) K Qp) :
  VV P (⟨some d,.next,[x],none,none⟩::os) al H K Qp:=by
 refine ⟨?_⟩
 show (match nnext (evsL al [x]) H with | some l=>∀ x∈l,vopsL P os (setL al (some d) x.1) x.2 K Qp | none=>False)
 have e1:evsL al [x]=[.ptr it 0]:=by show [evL al x]=_;rw [hx]
 have e2:iterAt H it=some (some M,n,seen,n):=by simp only [iterAt,hi]
 have e3:mapAt H M=some (es,n):=by simp only [mapAt,hm]
 have ha:(!seen.isEmpty && !es.isEmpty&&es.all (fun e=>decide (e.2.2≥n)))=false:=by
  cases es with
  | nil=>simp
  | cons e es =>
   have:=hall e (by simp)
   have h0:decide (e.2.2≥n)=false:=by simpa using this
   rw [List.all_cons,h0,Bool.false_and,Bool.and_false]
 have hnew:(es.filter fun e=>!seen.contains e.2.2).filter (fun e=>decide (e.2.2≥n))=[]:=by
  rw [List.filter_eq_nil_iff]
  intro e he
  have:=hall e (List.mem_filter.1 he).1
  simp;omega
 rw [e1]
 simp only [nnext,e2,e3,ha,Bool.false_eq_true,if_false,hnew,List.append_nil]
 intro z hz
 rcases List.mem_append.1 hz with hz | hz
 ·split at hz
  ·rename_i hemp
   rw [List.mem_singleton] at hz
   subst hz
   refine (hdone fun e he=>?_).1
   rw [List.isEmpty_iff,List.filter_eq_nil_iff] at hemp
   refine Classical.byContradiction fun hns=>?_
   have:=hemp _ (List.mem_filter.2 ⟨he,by simpa using hns⟩)
   have h2:=hall e he
   simp at this;omega
  ·cases hz
 ·obtain ⟨e,he,rfl⟩:=List.mem_map.1 hz
  obtain ⟨h1,h2⟩:=List.mem_filter.1 (List.mem_filter.1 he).1
  exact (hnext e h1 (by simpa using h2)).1
theorem st_entryG {it M n i:Nat} {es:Ents} {seen:List Nat} {e:AV × AV × Nat} (hx:evL al x=.ptr it 0) (hi:H[it]? =some (.iter (some M) n (seen++[i]) n)) (hm:H[M]? =some (.map es n))
  (hk:es.find? (fun e=>e.2.2==i)=some e) (h:VV P os ((d,.tuple [e.1,e.2.1])::al) H K Qp):VV P (⟨some d,.i (.n .entry),[x],none,none⟩::os) al H K Qp:=by
 refine st_i (H':=H) (v:=.tuple [e.1,e.2.1]) ?_ h
 have e1:evsL al [x]=[.ptr it 0]:=by show [evL al x]=_;rw [hx]
 have e2:iterAt H it=some (some M,n,seen++[i],n):=by simp only [iterAt,hi]
 have e3:mapAt H M=some (es,n):=by simp only [mapAt,hm]
 show nsem .entry (evsL al [x]) H H.length=_
 rw [e1]
 simp only [nsem,e2,e3,List.getLast?_concat,if_true,hk]
end steps
theorem tkn_skp (s:Bt) (p:Nat):tkn s (skp s p)=tkn s p:=by unfold tkn;rw [skp_skp]
theorem tak_f {s k:Bt} {p q:Nat} (h:tak k s p=.ok (false,q)):∃ t,tkn s p=.ok (t,q)∧(t==k)=false∧tkn s q=tkn s p:=by
 unfold tak at h
 obtain ⟨u,h1,h2⟩:=z0S h
 split at h2
 ·cases h2
 ·rename_i hne
  injection h2 with h2
  injection h2 with _ h2
  subst h2
  refine ⟨u.1,h1,by simpa using hne,?_⟩
  have:u.2=skp s p:=by
   unfold tkn at h1
   split at h1
   ·cases h1
   ·injection h1 with h1;rw [←h1]
  rw [this,tkn_skp]
theorem tak_t {s k:Bt} {p q:Nat} (h:tak k s p=.ok (true,q)):∃ r,tkn s p=.ok (k,r)∧q=r+k.length:=by
 unfold tak at h
 obtain ⟨u,h1,h2⟩:=z0S h
 split at h2
 ·rename_i he
  injection h2 with h2
  injection h2 with _ h2
  have:u.1=k:=by simpa using he
  exact ⟨u.2,by rw [h1,←this],by rw [←h2]⟩
 ·cases h2
theorem tak_bad {s k:Bt} {p:Nat} (h:tak k s p=.bad):tkn s p=.bad:=by
 unfold tak at h
 cases ht:tkn s p with
 | oof=>rw [ht] at h;cases h
 | bad=>rfl
 | ok t=>rw [ht,z0N] at h;split at h<;>cases h
def aes:Ents:=[(.str [126],.int .i64 11,0),(.str [36],.int .i64 12,1)]
theorem c295 (n:Nat) (hk:WOk n 226 .ahead) (hk2:WOk n 228 .atom):WOk (n+1) 226 .ahead:=by
 intro rid s p H hg hp hs hne
 have hrl:=(List.getElem?_eq_some_iff.1 hg).1
 simp only [pe] at hne ⊢
 generalize hx:(tkn s p).bind _=xx at hne ⊢
 refine ACall.sealed (n:=H.length) ?_
 refine is226.c1 z0W mixed rfl ?_
 rw [List.append_nil]
 have m0:Mod H rid (RB s p) (H++[B0]):=(Mod.refl hg).app _
 have hb0:(H++[B0])[H.length]? =some B0:=z0Q
 refine z0E ?_
 refine st_mkMG ?_
 have hM0:(H++[B0]++[.map [] 0]:Heap)[(H++[B0]).length]? =some (.map [] 0):=z0Q
 have hl0:(H++[B0]:Heap).length=H.length+1:=by simp
 rw [hl0] at hM0 ⊢
 refine st_updG (v:=.int .i64 11) rfl rfl rfl hM0 rfl ?_
 have hM1:=z0C (y:=Blk.map ([]++[(.str [126],.int .i64 11,0)]) (0+1)) hM0
 refine st_updG (v:=.int .i64 12) rfl rfl rfl hM1 rfl ?_
 have hM2:=z0C (y:=Blk.map ([]++[(.str [126],.int .i64 11,0)]++[(.str [36],.int .i64 12,0+1)]) (0+1+1)) hM1
 refine z0E ?_
 refine st_rangeG (c:=2) rfl hM2 ?_
 have hM3:=z0H (G:=[Blk.iter (some (H.length+1)) 2 [] 2]) hM2
 have m3:=(((m0.app [.map [] 0]).own (id:=H.length+1) (x:=Blk.map ([]++[(.str [126],.int .i64 11,0)]) (0+1)) (by omega) (by omega)).own (id:=H.length+1) (x:=Blk.map ([]++[(.str [126],.int .i64 11,0)]++[(.str [36],.int .i64 12,0+1)]) (0+1+1)) (by omega) (by omega)).app [Blk.iter (some (H.length+1)) 2 [] 2]
 have hb3:=z0H (G:=[Blk.iter (some (H.length+1)) 2 [] 2]) (z0A (b:=H.length+1) (y:=Blk.map ([]++[(.str [126],.int .i64 11,0)]++[(.str [36],.int .i64 12,0+1)]) (0+1+1)) (z0A (b:=H.length+1) (y:=Blk.map ([]++[(.str [126],.int .i64 11,0)]) (0+1)) (z0H (G:=[.map [] 0]) hb0) (by omega)) (by omega))
 generalize hX:(((H++[B0]++[.map [] 0]:Heap).set (H.length+1) (.map ([]++[(.str [126],.int .i64 11,0)]) (0+1))).set (H.length+1) (.map ([]++[(.str [126],.int .i64 11,0)]++[(.str [36],.int .i64 12,0+1)]) (0+1+1)):Heap)=X at *
 have hI:(X++[Blk.iter (some (H.length+1)) 2 [] 2])[X.length]? =some (.iter (some (H.length+1)) 2 [] 2):=z0Q
 have hXl:H.length+1<X.length:=(List.getElem?_eq_some_iff.1 hM2).1
 generalize (X++[Blk.iter (some (H.length+1)) 2 [] 2]:Heap)=Y at *
 generalize X.length=it at *
 clear hX hM0 hM1 hM2 m0 hb0 hl0 X
 replace hM3:Y[H.length+1]? =some (.map aes 2):=hM3
 refine z0E ?_
 refine z2G (fun m al H'=>∃ seen q,al=[(0,.ptr rid 0),(2,.ptr H.length 0),(9,.ptr it 0)]∧H'[it]? =some (.iter (some (H.length+1)) 2 seen 2)∧H'[H.length+1]? =some (.map aes 2)∧H'[H.length]? =some B0 ∧
  Mod H rid (RB s q) H'∧q≤s.length∧tkn s q=tkn s p∧(0∈seen→∃ t,tkn s p=.ok (t,q)∧(t==[126])=false)∧(1∈seen→∃ t,tkn s p=.ok (t,q)∧(t==[36])=false)∧m=(if 0∈seen then 0 else 1)+(if 1∈seen then 0 else 1)) 2
  ⟨[],p,rfl,hI,hM3,hb3,m3,hp,rfl,(fun h=>by cases h),(fun h=>by cases h),rfl⟩ ?_
 clear hI hM3 hb3 m3 Y
 rintro m _ Y ⟨seen,q,rfl,hI,hM,hb,hm,hq,htq,h0,h1,hmm⟩
 have hitl0:=(List.getElem?_eq_some_iff.1 hI).1
 refine z0E ?_
 refine st_nextG rfl hI hM (by intro e he;simp only [aes,List.mem_cons,List.not_mem_nil,or_false] at he;rcases he with rfl | rfl<;>decide) ?_ ?_
 ·intro hall
  obtain ⟨t,ht,ht1⟩:=h0 (hall (.str [126],.int .i64 11,0) (by simp [aes]))
  obtain ⟨t',ht',ht2⟩:=h1 (hall (.str [36],.int .i64 12,1) (by simp [aes]))
  rw [ht] at ht'
  injection ht' with ht'
  injection ht' with ht' _
  subst ht'
  rw [ht,z0N] at hx
  simp only [ht1,ht2,Bool.false_eq_true,if_false] at hx
  clear h0 h1 hmm hall htq ht ht1 ht2 hI hM
  have hne1:pe n .atom s q≠.oof:=fun e=>hne (by rw [←hx,e];rfl)
  refine z0E ?_
  refine z5D (args:=[.ptr rid 0]) (by rfl) (hk2 hm.get hq hs hne1) ?_ ?_
  rotate_left
  ·intro q' H' he hm4
   exact z1F (by rw [←hx,he];rfl) (hm.trans hm4)
  intro op u nl l q4 H4 he hm4
  rw [he,z0N] at hx
  obtain ⟨a1,a2,_,a4⟩:=pe_ok _ _ _ _ _ rfl he hq
  simp only at a1 a2 hx
  have hb4:=hm4.old _ _ (by omega) hb
  have m4:=hm.trans hm4
  refine z1Q ?_
  refine z1H rfl rfl rfl rfl rfl z1C ?_
  have m5:=m4.app [Blk.cells [.int .i64 op,.str u,lst nl l]]
  have hb5:=z0H (G:=[Blk.cells [.int .i64 op,.str u,lst nl l]]) hb4
  have hla:(H4++[Blk.cells [.int .i64 op,.str u,lst nl l]])[H4.length]? =some (.cells [.int .i64 op,.str u,lst nl l]):=z0Q
  have hb4l:H.length<H4.length:=(List.getElem?_eq_some_iff.1 hb4).1
  generalize (H4++[Blk.cells [.int .i64 op,.str u,lst nl l]]:Heap)=H5 at *
  generalize H4.length=b9 at *
  clear hm hb hm4 hb4 m4 he a1 a4 hne1 hitl0
  refine z0E ?_
  refine z2G (fun m al H'=>∃ c0 c1 c2 a q,al=[(0,.ptr rid 0),(2,.ptr H.length 0),(5,.ptr b9 0)]∧H'[b9]? =some (.cells [c0,c1,c2])∧([c0,c1,c2]:List AV).all AV.scalar=true ∧
   Nest (b9+1) H' H'.length [c0,c1,c2] a∧H'[H.length]? =some B0∧Mod H rid (RB s q) H'∧q≤s.length∧m≤n∧pe m (.postL a) s q=xx) n
   ⟨_,_,_,.mk op u nl l,q4,rfl,hla,z1C,.base _ _ _ _ _,hb5,m5,a2,Nat.le_refl _,hx⟩ ?_
  clear hla hb5 m5 a2 hx hq
  clear H5
  rintro m _ H1 ⟨c0,c1,c2,a,q,rfl,h9,hsc,hN,hb0,hm,hq,hmn,hx⟩
  cases m with
  | zero=>exact absurd hx.symm hne
  | succ m =>
  simp only [pe] at hx
  refine z0E ?_
  refine st_tk (by rfl) hm.get hq hs ?_ ?_
  rotate_left
  ·intro H' ht hm2
   exact z1F (by rw [←hx,ht];rfl) (hm.trans hm2)
  intro t H2 ht htl hg2 hm2
  rw [ht,z0N] at hx
  simp only at hx
  generalize skp s q=q2 at *
  have h92:=hm2.old _ _ (by omega) h9
  have hb2:=hm2.old _ _ (by omega) hb0
  have m2:=hm.trans hm2
  have hN2:Nest (b9+1) H2 H2.length [c0,c1,c2] a:=hN.mono hm2.len fun j b h1 h2 h3=>hm2.old j b (by omega) h3
  clear hm hN hb0 h9 hm2 ht
  refine z0E ?_
  cases bb8:(t==[42])
  rotate_left
  ·rw [bb8] at hx
   simp only [if_true] at hx
   have hl1:=z2Q bb8
   simp only [List.length_cons,List.length_nil] at hl1
   refine z0E ?_
   refine z0X (.int .i64 (q2+1:Nat)) rfl rfl hg2 rfl rfl rfl ?_
   have m3:Mod H rid (RB s (q2+1)) (H2.set rid (.cells (setAt [.str s,.int .i64 q2] (0+1) (AV.int .i64 (q2+1:Nat)).cells))):=m2.put
   have hb3:(H2.set rid (.cells (setAt [.str s,.int .i64 q2] (0+1) (AV.int .i64 (q2+1:Nat)).cells)))[H.length]? =some B0:=z0A hb2 (by omega)
   have h93:(H2.set rid (.cells (setAt [.str s,.int .i64 q2] (0+1) (AV.int .i64 (q2+1:Nat)).cells)))[b9]? =some (.cells [c0,c1,c2]):=z0A h92 (by omega)
   have hN3:Nest (b9+1) (H2.set rid (.cells (setAt [.str s,.int .i64 q2] (0+1) (AV.int .i64 (q2+1:Nat)).cells))) (H2.set rid (.cells (setAt [.str s,.int .i64 q2] (0+1) (AV.int .i64 (q2+1:Nat)).cells))).length [c0,c1,c2] a :=
    hN2.mono (by rw [List.length_set];exact Nat.le_refl _) fun j b h1 h2 h3=>z0A h3 (by omega)
   generalize H2.set rid (.cells (setAt [.str s,.int .i64 q2] (0+1) (AV.int .i64 (q2+1:Nat)).cells))=X at *
   have h9l:=(List.getElem?_eq_some_iff.1 h93).1
   refine z0E ?_
   refine z0V (out:=[c0,c1,c2]++flatE []) rfl ?_
   refine z0R rfl rfl ?_
   refine z0P rfl rfl (z0H h93) rfl ?_
   have m5:=m3.app [Blk.cells ([c0,c1,c2]++flatE [])]
   have hlast:(X++[Blk.cells ([c0,c1,c2]++flatE [])])[X.length]? =some (.cells ([c0,c1,c2]++flatE [])):=z0Q
   refine z0E ?_
   refine ⟨m,by omega,_,_,_,nd 8 [a],q2+1,rfl,z0C (z0H h93),rfl,?_,z0A (z0H hb3) (by omega),m5.own (by omega) (by omega),by omega,by omega,hx⟩
   exact .node _ X.length 8 [c0,c1,c2] a [] (by omega) (by simp) (z0A hlast (by omega)) rfl (hN3.mono (Nat.le_refl _) fun j b h1 h2 h3=>z0A (z0H h3) (by omega))
  rw [bb8] at hx
  simp only [Bool.false_eq_true,if_false] at hx
  refine z0E ?_
  cases bb9:(t==[43])
  rotate_left
  ·rw [bb9] at hx
   simp only [if_true] at hx
   have hl1:=z2Q bb9
   simp only [List.length_cons,List.length_nil] at hl1
   refine z0E ?_
   refine z0X (.int .i64 (q2+1:Nat)) rfl rfl hg2 rfl rfl rfl ?_
   have m3:Mod H rid (RB s (q2+1)) (H2.set rid (.cells (setAt [.str s,.int .i64 q2] (0+1) (AV.int .i64 (q2+1:Nat)).cells))):=m2.put
   have hb3:(H2.set rid (.cells (setAt [.str s,.int .i64 q2] (0+1) (AV.int .i64 (q2+1:Nat)).cells)))[H.length]? =some B0:=z0A hb2 (by omega)
   have h93:(H2.set rid (.cells (setAt [.str s,.int .i64 q2] (0+1) (AV.int .i64 (q2+1:Nat)).cells)))[b9]? =some (.cells [c0,c1,c2]):=z0A h92 (by omega)
   have hN3:Nest (b9+1) (H2.set rid (.cells (setAt [.str s,.int .i64 q2] (0+1) (AV.int .i64 (q2+1:Nat)).cells))) (H2.set rid (.cells (setAt [.str s,.int .i64 q2] (0+1) (AV.int .i64 (q2+1:Nat)).cells))).length [c0,c1,c2] a :=
    hN2.mono (by rw [List.length_set];exact Nat.le_refl _) fun j b h1 h2 h3=>z0A h3 (by omega)
   generalize H2.set rid (.cells (setAt [.str s,.int .i64 q2] (0+1) (AV.int .i64 (q2+1:Nat)).cells))=X at *
   have h9l:=(List.getElem?_eq_some_iff.1 h93).1
   refine z0E ?_
   refine z0V (out:=[c0,c1,c2]++flatE []) rfl ?_
   refine z0R rfl rfl ?_
   refine z0P rfl rfl (z0H h93) rfl ?_
   have m5:=m3.app [Blk.cells ([c0,c1,c2]++flatE [])]
   have hlast:(X++[Blk.cells ([c0,c1,c2]++flatE [])])[X.length]? =some (.cells ([c0,c1,c2]++flatE [])):=z0Q
   refine z0E ?_
   refine ⟨m,by omega,_,_,_,nd 9 [a],q2+1,rfl,z0C (z0H h93),rfl,?_,z0A (z0H hb3) (by omega),m5.own (by omega) (by omega),by omega,by omega,hx⟩
   exact .node _ X.length 9 [c0,c1,c2] a [] (by omega) (by simp) (z0A hlast (by omega)) rfl (hN3.mono (Nat.le_refl _) fun j b h1 h2 h3=>z0A (z0H h3) (by omega))
  rw [bb9] at hx
  simp only [Bool.false_eq_true,if_false] at hx
  refine z0E ?_
  cases bb10:(t==[63])
  rotate_left
  ·rw [bb10] at hx
   simp only [if_true] at hx
   have hl1:=z2Q bb10
   simp only [List.length_cons,List.length_nil] at hl1
   refine z0E ?_
   refine z0X (.int .i64 (q2+1:Nat)) rfl rfl hg2 rfl rfl rfl ?_
   have m3:Mod H rid (RB s (q2+1)) (H2.set rid (.cells (setAt [.str s,.int .i64 q2] (0+1) (AV.int .i64 (q2+1:Nat)).cells))):=m2.put
   have hb3:(H2.set rid (.cells (setAt [.str s,.int .i64 q2] (0+1) (AV.int .i64 (q2+1:Nat)).cells)))[H.length]? =some B0:=z0A hb2 (by omega)
   have h93:(H2.set rid (.cells (setAt [.str s,.int .i64 q2] (0+1) (AV.int .i64 (q2+1:Nat)).cells)))[b9]? =some (.cells [c0,c1,c2]):=z0A h92 (by omega)
   have hN3:Nest (b9+1) (H2.set rid (.cells (setAt [.str s,.int .i64 q2] (0+1) (AV.int .i64 (q2+1:Nat)).cells))) (H2.set rid (.cells (setAt [.str s,.int .i64 q2] (0+1) (AV.int .i64 (q2+1:Nat)).cells))).length [c0,c1,c2] a :=
    hN2.mono (by rw [List.length_set];exact Nat.le_refl _) fun j b h1 h2 h3=>z0A h3 (by omega)
   generalize H2.set rid (.cells (setAt [.str s,.int .i64 q2] (0+1) (AV.int .i64 (q2+1:Nat)).cells))=X at *
   have h9l:=(List.getElem?_eq_some_iff.1 h93).1
   refine z0E ?_
   refine z0V (out:=[c0,c1,c2]++flatE []) rfl ?_
   refine z0R rfl rfl ?_
   refine z0P rfl rfl (z0H h93) rfl ?_
   have m5:=m3.app [Blk.cells ([c0,c1,c2]++flatE [])]
   have hlast:(X++[Blk.cells ([c0,c1,c2]++flatE [])])[X.length]? =some (.cells ([c0,c1,c2]++flatE [])):=z0Q
   refine z0E ?_
   refine ⟨m,by omega,_,_,_,nd 10 [a],q2+1,rfl,z0C (z0H h93),rfl,?_,z0A (z0H hb3) (by omega),m5.own (by omega) (by omega),by omega,by omega,hx⟩
   exact .node _ X.length 10 [c0,c1,c2] a [] (by omega) (by simp) (z0A hlast (by omega)) rfl (hN3.mono (Nat.le_refl _) fun j b h1 h2 h3=>z0A (z0H h3) (by omega))
  rw [bb10] at hx
  simp only [Bool.false_eq_true,if_false] at hx
  refine z0E ?_
  refine z0P rfl rfl hb2 hsc ?_
  refine z0E ?_
  have hN3:Nest (b9+1) (H2.set H.length (.cells [c0,c1,c2])) H2.length [c0,c1,c2] a:=hN2.mono (Nat.le_refl _) fun j b h1 h2 h3=>z0A h3 (by omega)
  obtain ⟨K,hK⟩:=hN3.seals.2 _ fun j b _ _ h=>h
  have hK:=hK.mono (m:=H.length) (by omega)
  have m3:Mod H rid (RB s q2) (H2.set H.length (.cells [c0,c1,c2])):=m2.own (Nat.le_refl _) (by omega)
  exact z1G (z1K rfl (z0C hb2)) (.inl ⟨_,_,K,rfl,hK,a,q2,hx.symm,rfl,m3.seals hrl (Nat.le_refl _) hK⟩)
 intro e he hns
 obtain ⟨k,o,i,rfl,hki⟩:∃ (k:UInt8) (o:Int) (i:Nat),e=(.str [k],.int .i64 o,i)∧((k=126∧o=11∧i=0)∨(k=36∧o=12∧i=1)):=by
  simp only [aes,List.mem_cons,List.not_mem_nil,or_false] at he
  rcases he with rfl | rfl
  ·exact ⟨_,_,_,rfl,.inl ⟨rfl,rfl,rfl⟩⟩
  ·exact ⟨_,_,_,rfl,.inr ⟨rfl,rfl,rfl⟩⟩
 have hfind:aes.find? (fun e=>e.2.2==i)=some (.str [k],.int .i64 o,i):=by
  rcases hki with ⟨rfl,rfl,rfl⟩ | ⟨rfl,rfl,rfl⟩<;>rfl
 have hI2:=z0C (y:=Blk.iter (some (H.length+1)) 2 (seen++[i]) 2) hI
 have hM2:=z0A (y:=Blk.iter (some (H.length+1)) 2 (seen++[i]) 2) (b:=it) hM (by omega)
 have hb2:=z0A (y:=Blk.iter (some (H.length+1)) 2 (seen++[i]) 2) (b:=it) hb (by omega)
 have m2:Mod H rid (RB s q) (Y.set it (.iter (some (H.length+1)) 2 (seen++[i]) 2)):=hm.own (by omega) (by omega)
 simp only
 generalize Y.set it (.iter (some (H.length+1)) 2 (seen++[i]) 2)=Y2 at *
 have hitl:=(List.getElem?_eq_some_iff.1 hI2).1
 clear hI hM hb hm hitl0
 clear Y
 refine z0E ?_
 refine st_entryG rfl hI2 hM2 hfind ?_
 refine z0E ?_
 refine st_tak (by rfl) m2.get hq hs ?_ ?_
 rotate_left
 ·intro q' H' ht hm2
  exact z1F (by rw [←hx,←htq,tak_bad ht];rfl) (m2.trans hm2)
 intro b q2 H2 ht hq2 hg2 hm2
 have hI3:=hm2.old _ _ (by omega) hI2
 have hM3:=hm2.old _ _ (by omega) hM2
 have hb3:=hm2.old _ _ (by omega) hb2
 have m3:=m2.trans hm2
 clear hI2 hM2 hb2 m2 hm2
 refine z0E ?_
 cases b
 ·obtain ⟨t,ht1,ht2,ht3⟩:=tak_f ht
  rw [htq] at ht1 ht3
  refine z0E ?_
  have same:∀ (c:UInt8),(∃ t,tkn s p=.ok (t,q)∧(t==[c])=false)→∃ t,tkn s p=.ok (t,q2)∧(t==[c])=false:=by
   rintro c ⟨u,hu1,hu2⟩
   rw [ht1] at hu1
   injection hu1 with hu1
   injection hu1 with hu1 _
   exact ⟨t,ht1,by rw [hu1];exact hu2⟩
  refine ⟨_,?_,seen++[i],q2,rfl,hI3,hM3,hb3,m3,hq2,ht3,?_,?_,rfl⟩
  ·rw [hmm]
   rcases hki with ⟨rfl,rfl,rfl⟩ | ⟨rfl,rfl,rfl⟩
   ·simp only at hns
    simp [hns]
   ·simp only at hns
    simp [hns]
  ·intro hmem
   rcases List.mem_append.1 hmem with h | h
   ·exact same _ (h0 h)
   ·rcases hki with ⟨rfl,rfl,rfl⟩ | ⟨rfl,rfl,rfl⟩
    ·exact ⟨t,ht1,ht2⟩
    ·simp at h
  ·intro hmem
   rcases List.mem_append.1 hmem with h | h
   ·exact same _ (h1 h)
   ·rcases hki with ⟨rfl,rfl,rfl⟩ | ⟨rfl,rfl,rfl⟩
    ·simp at h
    ·exact ⟨t,ht1,ht2⟩
 ·obtain ⟨r,hr1,hr2⟩:=tak_t ht
  have hx':((pe n .ahead s q2).bind fun x=>PR.ok (nd o [x.1],x.2))=xx:=by
   rw [←htq,hr1,z0N] at hx
   rcases hki with ⟨rfl,rfl,rfl⟩ | ⟨rfl,rfl,rfl⟩
   ·rw [←hx,hr2];rfl
   ·rw [←hx,hr2];rfl
  have hne3:pe n .ahead s q2≠.oof:=fun e=>hne (by rw [←hx',e];rfl)
  refine z0E ?_
  refine z5D (args:=[.ptr rid 0]) (by rfl) (hk m3.get hq2 hs hne3) ?_ ?_
  rotate_left
  ·intro q' H' he hm4
   exact z1F (by rw [←hx',he];rfl) (m3.trans hm4)
  intro op u nl l q4 H4 he hm4
  rw [he,z0N] at hx'
  simp only at hx'
  have hb4:=hm4.old _ _ (by omega) hb3
  have m4:=m3.trans hm4
  have hl4:=(List.getElem?_eq_some_iff.1 hb4).1
  refine z0V (out:=flatE [.mk op u nl l]) (by rw [z0Y];rfl) ?_
  refine z0R (out:=[.int .i64 o,.str [],.sl H4.length 0 1 3]) rfl rfl ?_
  have hb5:=z0H (G:=[.cells (flatE [.mk op u nl l])]) hb4
  have m5:=m4.app [.cells (flatE [.mk op u nl l])]
  refine z0P rfl rfl hb5 rfl ?_
  refine z0E ?_
  exact z1G (z1K rfl (z0C hb5)) (fin_node (l:=[.mk op u nl l]) hx'.symm (z0A z0Q (by omega)) (by omega) (m5.own (Nat.le_refl _) (by omega)) hrl)
theorem WOk.zero {f:FuncId} {md:Md}:WOk 0 f md:=fun _ _ _ h=>absurd rfl h
theorem hb277:hasBody PP 209=true:=rfl
theorem hb288:hasBody PP 220=true:=rfl
theorem hb292:hasBody PP 223=true:=rfl
theorem hb293:hasBody PP 224=true:=rfl
theorem hb294:hasBody PP 225=true:=rfl
structure WAll (n:Nat):Prop where
 only:WOk n 174 .only
 but:WOk n 190 .but
 or:WOk n 209 .or
 and:WOk n 220 .and
 shuffle:WOk n 223 .shuffle
 ignore:WOk n 224 .ignore
 chain:WOk n 225 .chain
 ahead:WOk n 226 .ahead
 atom:WOk n 228 .atom
theorem wall:∀ N n,n≤N→WAll n
 | 0,n,hn=>by
  obtain rfl:n=0:=by omega
  exact ⟨WOk.zero,WOk.zero,WOk.zero,WOk.zero,WOk.zero,WOk.zero,WOk.zero,WOk.zero,WOk.zero⟩
 | N+1,n,hn=>by
  have ih:=wall N
  cases n with
  | zero=>exact ih 0 (by omega)
  | succ n =>
   have h1:=ih n (by omega)
   exact ⟨c238 n h1.but,c257 _ hb277 fun m hm=>(ih m (by omega)).or,c277 _ hb288 fun m hm=>(ih m (by omega)).and,c288 _ hb292 fun m hm=>(ih m (by omega)).shuffle,c292 _ hb293 fun m hm=>(ih m (by omega)).ignore,
    c293 _ hb294 fun m hm=>(ih m (by omega)).chain,c294 n fun m hm=>(ih m (by omega)).ahead,c295 n h1.ahead h1.atom,c297 n h1.only⟩
def peA (md:Md) (s:Bt) (p:Nat):PR (Ex × Nat):=pe (15*(s.length+1)) md s p
end Go.Ab
