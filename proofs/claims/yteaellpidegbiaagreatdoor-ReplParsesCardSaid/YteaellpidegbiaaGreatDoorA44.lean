/- Part 44 of the proof. -/
import Derived.Test.YteaellpidegbiaaGreatDoorA42
set_option linter.unusedVariables false
set_option linter.unusedSimpArgs false
namespace Go.Ab
open Go
set_option maxRecDepth 100000
set_option maxHeartbeats 8000000
def FlB (s:Bt) (b:Blk):Prop:=∃ a nx k sym bad,b=RE s a nx k sym bad∧(bad=true∨k=4)
def StP (s:Bt) (x:PR (Ex × Nat)) (e:Ex) (b:Blk):Prop:=(∃ q sym,x=.ok (e,q)∧b=advB s q sym false)∨(x=.bad∧FlB s b)
def ReP (H:Heap) (rid:Nat) (s:Bt) (x:PR (Ex × Nat)):CPost:=Ends (fun v H'=>∃ e b,v=enc e∧Mod H rid b H'∧StP s x e b) (fun _ _=>False)
abbrev RePX (H:Heap) (rid:Nat) (s:Bt) (x:PR (Ex × Nat)):CPost:=EndsX H.length (fun v H'=>∃ e b,v=enc e∧Mod H rid b H'∧StP s x e b) (fun _ _=>False)
def WR (n:Nat) (f:FuncId) (ar:List AV) (md:Md):Prop:=∀ {rid:Nat} {s:Bt} {p:Nat} {sym:Bt} {H:Heap},H[rid]? =some (advB s p sym false)→p≤s.length→s.length≤6000→pe n md s p≠.oof→ACall PP f (.ptr rid 0::ar) H (ReP H rid s (pe n md s p))
theorem WR.zero {f:FuncId} {ar:List AV} {md:Md}:WR 0 f ar md:=fun _ _ _ h=>absurd rfl h
theorem tok_one {r:Bt} {c:UInt8} (h:tok r=some [c]):isAl c=true∨sg15.contains c=true:=by
 cases r with
 | nil=>injection h with h;cases h
 | cons d t =>
  rw [tok_cons] at h
  split at h
  ·rename_i h1;injection h with h;injection h with h;subst h;exact .inl h1
  ·split at h
   ·split at h
    ·rename_i h2
     injection h with h
     have:=congrArg List.length h
     unfold angOk at h2
     simp only [Bool.and_eq_true,decide_eq_true_eq] at h2
     rw [List.length_take] at this
     simp only [List.length_cons,List.length_nil] at this h2
     omega
    ·cases h
   ·split at h
    ·rename_i h2
     cases t with
     | nil =>
      have:isSig (([]:Bt).headD 0)=false:=by decide
      rw [this] at h2
      simp at h2
     | cons=>injection h with h;injection h with _ h;cases h
    ·split at h
     ·injection h with h;cases h
     ·split at h
      ·injection h with h;cases h
      ·split at h
       ·rename_i h2;injection h with h;injection h with h;subst h;exact .inr h2
       ·cases h
structure Opn (s:Bt) (q nx:Nat) (k:Int) (sym:Bt):Prop where
 h:(tkn s q=.bad∧k=4)∨∃ t,tkn s q=.ok (t,skp s q)∧tok (s.drop (skp s q))=some t∧nx=skp s q+t.length∧nx≤s.length∧k=tkK (some t)∧(k=1→sym=tkS t)
theorem adv_open {s:Bt} {q:Nat} (sym:Bt) (bad:Bool) (hq:q≤s.length):∃ nx k sym',advB s q sym bad=RE s (skp s q) nx k sym' bad∧Opn s q nx k sym':=by
 unfold advB
 cases ht:tok (s.drop (skp s q)) with
 | none=>exact ⟨_,_,_,rfl,⟨.inl ⟨by unfold tkn;rw [ht],rfl⟩⟩⟩
 | some t =>
  have h1:=tok_len ht
  rw [List.length_drop] at h1
  have h2:=z5A hq
  refine ⟨_,_,_,rfl,⟨.inr ⟨t,by unfold tkn;rw [ht],ht,rfl,by omega,rfl,fun h=>?_⟩⟩⟩
  rw [h];rfl
theorem advB_skp (s:Bt) (q:Nat) (sym:Bt) (bad:Bool):advB s (skp s q) sym bad=advB s q sym bad:=by
 unfold advB;rw [skp_skp]
theorem tkK_one {c:UInt8} (h:isAl c=false):tkK (some [c])=c.toNat:=by
 unfold tkK
 simp [h]
theorem tkK_big {t:Bt} (h:2≤t.length):tkK (some t)=if t==[61,62] then 2 else if t==[91,93] then 3 else 1:=by
 match t,h with
 | a::b::t,_=>rfl
theorem sg_min {c:UInt8} (h:sg15.contains c=true):33≤c.toNat∧isAl c=false:=by
 have hm:c=95∨c=45∨c=124∨c=38∨c=37∨c=47∨c=126∨c=36∨c=42∨c=43∨c=63∨c=46∨c=33∨c=91∨c=93:=by simpa [sg15] using h
 rcases hm with rfl | rfl | rfl | rfl | rfl | rfl | rfl | rfl | rfl | rfl | rfl | rfl | rfl | rfl | rfl<;>decide
theorem z4M {r t:Bt} {c:UInt8} (_ht:tok r=some t) (hc:sg15.contains c=true):(tkK (some t)==(c.toNat:Int))=(t==[c]):=by
 obtain ⟨h1,h2⟩:=sg_min hc
 match t with
 | []=>rw [show tkK (some [])=0 from rfl];simp;omega
 | [d] =>
  cases hd:isAl d
  ·rw [tkK_one hd,z1T]
   simp
  ·rw [tkK_al hd]
   have:d≠c:=fun e=>by rw [e,h2] at hd;cases hd
   rw [show (([d]:Bt)==[c])=false by simpa using this,beq_eq_false_iff_ne];omega
 | a::b::t =>
  rw [tkK_big (by simp)]
  have:((a::b::t:Bt)==[c])=false:=by simp
  rw [this,beq_eq_false_iff_ne]
  split
  ·omega
  ·split<;>omega
theorem tkK_arrow {r t:Bt} (ht:tok r=some t):(tkK (some t)==2)=(t==[61,62]):=by
 match t,ht with
 | [],_=>rfl
 | [d],ht =>
  have:(([d]:Bt)==[61,62])=false:=by simp
  rw [this]
  cases hd:isAl d
  ·rw [tkK_one hd]
   have:=(sg_min ((tok_one ht).resolve_left (by rw [hd];simp))).1
   simp;omega
  ·rw [tkK_al hd];rfl
 | a::b::t,_ =>
  rw [tkK_big (by simp)]
  cases h:((a::b::t:Bt)==[61,62])
  ·simp only [Bool.false_eq_true,if_false]
   split<;>rfl
  ·rfl
theorem tkK_zero {r t:Bt} (ht:tok r=some t):(tkK (some t)==0)=(t==[]):=by
 match t,ht with
 | [],_=>rfl
 | [d],ht =>
  have:(([d]:Bt)==[])=false:=rfl
  rw [this]
  cases hd:isAl d
  ·rw [tkK_one hd]
   have:=(sg_min ((tok_one ht).resolve_left (by rw [hd];simp))).1
   simp;omega
  ·rw [tkK_al hd];rfl
 | a::b::t,_ =>
  rw [tkK_big (by simp)]
  have:((a::b::t:Bt)==[])=false:=rfl
  rw [this]
  split
  ·rfl
  ·split<;>rfl
def atomK (k:Int):Bool:=(k==1)||(k==3)||(k==46)||(k==33)||(k==91)||(k==126)||(k==36)
theorem atom_bgn {r t:Bt} (ht:tok r=some t):atomK (tkK (some t))=bgn t:=by
 match t,ht with
 | [],_=>rfl
 | [d],ht =>
  cases hd:isAl d
  ·rw [tkK_one hd]
   have hm:d=95∨d=45∨d=124∨d=38∨d=37∨d=47∨d=126∨d=36∨d=42∨d=43∨d=63∨d=46∨d=33∨d=91∨d=93:=by
    have:=(tok_one ht).resolve_left (by rw [hd];simp)
    simpa [sg15] using this
   rcases hm with rfl | rfl | rfl | rfl | rfl | rfl | rfl | rfl | rfl | rfl | rfl | rfl | rfl | rfl | rfl<;>rfl
  ·rw [tkK_al hd]
   unfold bgn
   have e1:(([d]:Bt) != [])=true:=rfl
   have e2:(([d]:Bt) != [61,62])=true:=by simp
   rw [e1,e2]
   simp [hd];rfl
 | a::b::t,_ =>
  rw [tkK_big (by simp)]
  unfold bgn
  have e1:((a::b::t:Bt) != [])=true:=rfl
  have e3:decide (1<(a::b::t:Bt).length)=true:=by simp
  rw [e1,e3]
  cases h:((a::b::t:Bt)==[61,62])
  ·have:((a::b::t:Bt) != [61,62])=true:=by rw [bne,h];rfl
   rw [this]
   simp only [Bool.false_eq_true,if_false]
   split<;>rfl
  ·have:((a::b::t:Bt) != [61,62])=false:=by rw [bne,h];rfl
   rw [this];rfl
section opn
variable {s:Bt} {q nx:Nat} {k:Int} {sym:Bt}
theorem Opn.sg (h:Opn s q nx k sym) {c:UInt8} (hc:sg15.contains c=true):((k==(c.toNat:Int))=true∧tak [c] s q=.ok (true,nx)∧nx≤s.length)∨((k==(c.toNat:Int))=false∧((tak [c] s q=.bad∧k=4)∨tak [c] s q=.ok (false,skp s q))):=by
 rcases h.h with ⟨h1,rfl⟩ | ⟨t,h1,h2,h3,h4,h5,_⟩
 ·refine .inr ⟨?_,.inl ⟨by unfold tak;rw [h1];rfl,rfl⟩⟩
  have:=(sg_min hc).1
  rw [beq_eq_false_iff_ne];omega
 ·rw [h5,z4M h2 hc]
  unfold tak
  rw [h1,z0R]
  simp only
  cases ht:(t==[c])
  ·exact .inr ⟨rfl,.inr rfl⟩
  ·refine .inl ⟨rfl,?_,h4⟩
   simp only [if_true,h3]
   rw [z1X ht]
theorem Opn.arrow (h:Opn s q nx k sym):((k==2)=true∧tak [61,62] s q=.ok (true,nx)∧nx≤s.length)∨((k==2)=false∧((tak [61,62] s q=.bad∧k=4)∨tak [61,62] s q=.ok (false,skp s q))):=by
 rcases h.h with ⟨h1,rfl⟩ | ⟨t,h1,h2,h3,h4,h5,_⟩
 ·exact .inr ⟨rfl,.inl ⟨by unfold tak;rw [h1];rfl,rfl⟩⟩
 ·rw [h5,tkK_arrow h2]
  unfold tak
  rw [h1,z0R]
  simp only
  cases ht:(t==[61,62])
  ·exact .inr ⟨rfl,.inr rfl⟩
  ·refine .inl ⟨rfl,?_,h4⟩
   simp only [if_true,h3]
   rw [z1X ht]
theorem Opn.atom (h:Opn s q nx k sym):(tkn s q=.bad∧k=4∧atomK k=false)∨∃ t,tkn s q=.ok (t,skp s q)∧atomK k=bgn t:=by
 rcases h.h with ⟨h1,rfl⟩ | ⟨t,h1,h2,h3,h4,h5,_⟩
 ·exact .inl ⟨h1,rfl,rfl⟩
 ·exact .inr ⟨t,h1,by rw [h5];exact atom_bgn h2⟩
end opn
section steps
variable {H:Heap} {al:AL} {K:KL} {Qp:AL→AV→Heap→Prop} {os:List IOper} {d:Nat} {x y z:Arg}
theorem z5F {f:FuncId} {as_:List Arg} {args:List AV} {rid:Nat} {s:Bt} {r:PR (Ex × Nat)} (ha:evsL al as_=args) (hc:ACall PP f args H (ReP H rid s r))
  (h:∀ op t nl l b H',StP s r (.mk op t nl l) b→Mod H rid b H'→VV PP os ((d,.agg [.int .i64 op,.str t,lst nl l])::al) H' K Qp) :
  VV PP (⟨some d,.callF f,as_,none,none⟩::os) al H K Qp:=by
 refine z1H ha hc ?_ ?_
 ·rintro v H' (⟨v',hv,e,b,rfl,hm,hst⟩ | ⟨v',hv,_⟩)
  ·cases hv
   obtain ⟨op,t,nl,l⟩:=e
   rw [z0X]
   exact h _ _ _ _ _ _ hst hm
  ·cases hv
 ·rintro v H' (⟨v',hv,_⟩ | ⟨v',hv,hf⟩)
  ·cases hv
  ·exact hf.elim
theorem z4Y {rid a0 nx:Nat} {kind:Int} {s sym:Bt} {bad:Bool} (hx:evL al x=.ptr rid 0) (hg:H[rid]? =some (RE s a0 nx kind sym bad)) (hp:nx≤s.length) (hs:s.length≤100000)
  (h:∀ v,VV PP os ((d,v)::al) (H.set rid (advB s nx sym bad)) K Qp):VV PP (⟨some d,.callF 215,[x],none,none⟩::os) al H K Qp:=by
 refine z1H (args:=[.ptr rid 0]) (by rw [←hx];rfl) (c215 hg hp hs) ?_ ?_
 ·rintro v H' ⟨_,rfl⟩;exact h v
 ·rintro v H' ⟨⟨v',hv⟩,_⟩;cases hv
end steps
theorem StP.ok {s:Bt} {x:PR (Ex × Nat)} {e:Ex} {q:Nat} {sym:Bt} {b:Blk} (h:x=.ok (e,q)) (hb:b=advB s q sym false):StP s x e b:=.inl ⟨q,sym,h,hb⟩
theorem z5E {H H':Heap} {rid id:Nat} {op:Int} {s:Bt} {l:List Ex} {x:PR (Ex × Nat)} {b:Blk} (hx:StP s x (nd op l) b) (hg:H'[id]? =some (.cells (flatE l))) (hid:H.length≤id) (hm:Mod H rid b H') (hr:rid<H.length) :
  RePX H rid s x (.ret (.agg [.int .i64 op,.str [],.sl id 0 l.length 3])) H':=by
 have hs:SealsX H.length (.agg [.int .i64 op,.str [],.sl id 0 l.length 3]) H' (enc (nd op l)) (H'.set id .dead):=by
  refine .step id _ hid hg (.base _ _ ?_) (.done _ _)
  unfold nd
  rw [z0X]
  refine .agg _ _ rfl fun i=>?_
  match i with
  | 0=>exact .refl _
  | 1=>exact .refl _
  | 2 =>
   show SealR id _ (.sl id 0 l.length 3) (lst false l)
   have e:lst false l=.list 3 (l.map enc):=by simp [lst]
   rw [e]
   refine .sl 0 _ 3 (l.map enc) (by simp) (fun x hx=>?_) ?_ ?_
   ·obtain ⟨e,_,rfl⟩:=List.mem_map.1 hx
    obtain ⟨a,b,c,d⟩:=e;rw [z0X];rfl
   ·rw [List.drop_zero,←z2K,List.take_length]
   ·rw [z2K];omega
  | i+3=>exact .refl _
 exact .inl ⟨_,_,_,rfl,hs,_,b,rfl,hm.seals hr (Nat.le_refl _) hs,hx⟩
theorem z4C {H H':Heap} {rid:Nat} {s:Bt} {e:Ex} {x:PR (Ex × Nat)} {v:AV} {b:Blk} (hv:v=enc e) (hx:StP s x e b) (hm:Mod H rid b H'):RePX H rid s x (.ret v) H':=by
 subst hv
 exact .inl ⟨_,_,_,rfl,.done _ _,_,b,rfl,hm,hx⟩
def tghR (k:Int):Int:=if k==45 then 124 else if k==124 then 38 else if k==38 then 37 else if k==37 then 47 else 0
theorem c265 (k:Int) (H:Heap):ACall PP 265 [.int .i64 k] H (Just H (.int .i64 (tghR k))):=by
 refine ACall.gives (is265.c1 z0V mixed rfl ?_)
 unfold tghR
 refine z0D ?_
 cases h1:(k==45)
 ·refine z0D ?_
  cases h2:(k==124)
  ·refine z0D ?_
   cases h3:(k==38)
   ·refine z0D ?_
    cases h4:(k==37)
    ·refine z0D ?_
     exact fr
    ·refine z0D ?_
     exact fr
   ·refine z0D ?_
    exact fr
  ·refine z0D ?_
   exact fr
 ·refine z0D ?_
  exact fr
def opR (k:Int):Int:=if k==45 then 7 else if k==124 then 5 else if k==38 then 6 else if k==37 then 15 else if k==47 then 13 else if k==42 then 8 else if k==43 then 9 else if k==63 then 10 else if k==126 then 11 else 12
theorem c266 (k:Int) (H:Heap):ACall PP 266 [.int .i64 k] H (Just H (.int .i64 (opR k))):=by
 refine ACall.gives (is266.c1 z0V mixed rfl ?_)
 unfold opR
 refine z0D ?_
 cases h1:(k==45)
 rotate_left
 ·refine z0D ?_
  exact fr
 refine z0D ?_
 cases h2:(k==124)
 rotate_left
 ·refine z0D ?_
  exact fr
 refine z0D ?_
 cases h3:(k==38)
 rotate_left
 ·refine z0D ?_
  exact fr
 refine z0D ?_
 cases h4:(k==37)
 rotate_left
 ·refine z0D ?_
  exact fr
 refine z0D ?_
 cases h5:(k==47)
 rotate_left
 ·refine z0D ?_
  exact fr
 refine z0D ?_
 cases h6:(k==42)
 rotate_left
 ·refine z0D ?_
  exact fr
 refine z0D ?_
 cases h7:(k==43)
 rotate_left
 ·refine z0D ?_
  exact fr
 refine z0D ?_
 cases h8:(k==63)
 rotate_left
 ·refine z0D ?_
  exact fr
 refine z0D ?_
 cases h9:(k==126)
 rotate_left
 ·refine z0D ?_
  exact fr
 refine z0D ?_
 exact fr
theorem c282 {rid a0 nx:Nat} {k:Int} {s sym:Bt} {bad:Bool} {H:Heap} (hg:H[rid]? =some (RE s a0 nx k sym bad)):ACall PP 282 [.ptr rid 0] H (Just H (.bool (atomK k))):=by
 refine ACall.gives (is282.c1 z0V mixed rfl ?_)
 have hg':(H++[])[rid]? =some (RE s a0 nx k sym bad):=by rw [List.append_nil];exact hg
 clear hg
 unfold atomK
 refine z0D ?_
 cases h1:(k==1)
 rotate_left
 ·refine z0D ?_
  exact fr
 refine z0D ?_
 cases h2:(k==3)
 rotate_left
 ·refine z0D ?_
  exact fr
 refine z0D ?_
 cases h3:(k==46)
 rotate_left
 ·refine z0D ?_
  exact fr
 refine z0D ?_
 cases h4:(k==33)
 rotate_left
 ·refine z0D ?_
  exact fr
 refine z0D ?_
 cases h5:(k==91)
 rotate_left
 ·refine z0D ?_
  exact fr
 refine z0D ?_
 cases h6:(k==126)
 rotate_left
 ·refine z0D ?_
  exact fr
 refine z0D ?_
 exact fr
theorem c264 (n:Nat) (hk:∀ m,m≤n→WR m 281 [] .ahead):WR (n+1) 264 [] .chain:=by
 intro rid s p sym H hg hp hs hne
 have hrl:=(List.getElem?_eq_some_iff.1 hg).1
 simp only [pe] at hne ⊢
 have hne1:pe n .ahead s p≠.oof:=fun e=>hne (by rw [e];rfl)
 generalize hX:(pe n .ahead s p).bind (fun a=>pe n (.chainL [a.1]) s a.2)=xx at hne ⊢
 refine ACall.sealed (n:=H.length) ?_
 refine is264.c1 z0V mixed rfl ?_
 rw [List.append_nil]
 have m0:Mod H rid (advB s p sym false) (H++[B0]):=(Mod.refl hg).app _
 refine z0B ?_
 refine z5F (args:=[.ptr rid 0]) (by rfl) (hk n (Nat.le_refl _) m0.get hp hs hne1) ?_
 intro op t nl l b H1 hst hm
 have hb0:H1[H.length]? =some B0:=hm.old _ _ (by omega) z0K
 have hJ:(∃ q sym,b=advB s q sym false∧q≤s.length∧pe n (.chainL [.mk op t nl l]) s q=xx∧1≤q)∨(FlB s b∧xx=.bad):=by
  rcases hst with ⟨q,sym',he,hb⟩ | ⟨he,hb⟩
  ·obtain ⟨a1,a2,a3,a4⟩:=pe_ok _ _ _ _ _ rfl he hp
   have a4:=a4 rfl
   simp only at a1 a2 a4
   rw [he,z0R] at hX
   exact .inl ⟨q,sym',hb,a2,hX,by omega⟩
  ·rw [he] at hX
   exact .inr ⟨hb,hX.symm⟩
 clear hst hX
 refine z1A (out:=flatE [.mk op t nl l]) (by rw [z0U];rfl) ?_
 have m1:=(m0.trans hm).app [.cells (flatE [.mk op t nl l])]
 have hb1:=z0F (G:=[.cells (flatE [.mk op t nl l])]) hb0
 have hli:(H1++[.cells (flatE [.mk op t nl l])])[H1.length]? =some (.cells (flatE [.mk op t nl l])):=z0K
 have hl1:=(m0.trans hm).len
 have hl2:=(List.getElem?_eq_some_iff.1 hb0).1
 generalize (H1++[.cells (flatE [.mk op t nl l])]:Heap)=H2 at *
 generalize H1.length=id1 at *
 refine z0B ?_
 refine wi_cutB (fun al' H'=>∃ id L b tl,al'=(0,.ptr rid 0)::(2,.ptr H.length 0)::(3,.sl id 0 L.length 3)::tl∧H'[id]? =some (.cells (flatE L))∧H.length<id∧H'[H.length]? =some B0∧Mod H rid b H'∧L≠[]∧L.length≤6001∧StP s xx (oneOr 4 L) b) ?_ ?_
 ·refine z1S (fun m al H'=>∃ id L b,al=[(0,.ptr rid 0),(2,.ptr H.length 0),(3,.sl id 0 L.length 3)]∧H'[id]? =some (.cells (flatE L))∧H.length<id∧H'[H.length]? =some B0∧Mod H rid b H' ∧
   m≤n∧L≠[]∧L.length≤6001∧((∃ q sym,b=advB s q sym false∧q≤s.length∧pe m (.chainL L) s q=xx∧L.length≤q)∨(FlB s b∧xx=.bad))) n ⟨id1,[.mk op t nl l],b,rfl,hli,by omega,hb1,m1,Nat.le_refl _,by simp,by simp,hJ⟩ ?_
  clear hli hb1 m1 hb0 hm hl1 hl2 m0 hne1 hJ
  rintro m _ H1 ⟨id,L,b,rfl,hli,hid,hb0,hm,hmn,hL,hLl,hJ⟩
  rcases hJ with ⟨q,sym',rfl,hq,hx,hLq⟩ | ⟨⟨a,nx,k,sym',bad,rfl,hf⟩,hxb⟩
  rotate_left
  ·
   have hg1:=hm.get
   have hst:StP s xx (oneOr 4 L) (RE s a nx k sym' bad):=.inr ⟨hxb,_,_,_,_,_,rfl,hf⟩
   refine z0B ?_
   cases bad
   ·have hk4:k=4:=by simpa using hf
    subst hk4
    refine z0B ?_
    refine z0G rfl (c282 hg1) ?_
    have e4:atomK 4=false:=rfl
    rw [e4]
    refine z0B ?_
    exact ⟨id,L,_,_,rfl,hli,hid,hb0,hm,hL,hLl,hst⟩
   ·refine z0B ?_
    exact ⟨id,L,_,_,rfl,hli,hid,hb0,hm,hL,hLl,hst⟩
  cases m with
  | zero=>exact absurd hx.symm hne
  | succ m =>
  simp only [pe] at hx
  obtain ⟨nx,k,sym2,hopen,hO⟩:=adv_open sym' false hq
  have hm':=hm
  rw [hopen] at hm'
  have hg1:=hm'.get
  refine z0B ?_
  refine z0G rfl (c282 hg1) ?_
  rcases hO.atom with ⟨ht,hk4,hat⟩ | ⟨t,ht,hat⟩
  ·rw [hat]
   rw [ht,z2M] at hx
   refine z0B ?_
   exact ⟨id,L,_,_,rfl,hli,hid,hb0,hm',hL,hLl,.inr ⟨hx.symm,_,_,_,_,_,rfl,.inr hk4⟩⟩
  rw [hat]
  rw [ht,z0R] at hx
  simp only at hx
  cases hbg:bgn t
  ·rw [hbg] at hx
   simp only [Bool.false_eq_true,if_false] at hx
   refine z0B ?_
   exact ⟨id,L,_,_,rfl,hli,hid,hb0,hm,hL,hLl,StP.ok hx.symm (advB_skp _ _ _ _).symm⟩
  rw [hbg] at hx
  simp only [if_true] at hx
  have hne3:pe m .ahead s (skp s q)≠.oof:=fun e=>hne (by rw [←hx,e];rfl)
  have hsl:=z5A hq
  have hg2:H1[rid]? =some (advB s (skp s q) sym' false):=by rw [advB_skp];exact hm.get
  refine z0B ?_
  refine z5F (args:=[.ptr rid 0]) (by rfl) (hk m (by omega) hg2 hsl hs hne3) ?_
  intro op' t' nl l b3 H3 hst hm3
  have hli3:=hm3.old _ _ (by omega) hli
  have hb3:=hm3.old _ _ (by omega) hb0
  have m3:=hm.trans hm3
  have hsq:=skp_ge s q
  have hJ:(∃ q sym,b3=advB s q sym false∧q≤s.length∧pe m (.chainL (L++[.mk op' t' nl l])) s q=xx∧L.length+1≤q)∨(FlB s b3∧xx=.bad):=by
   rcases hst with ⟨q',sym',he,hb⟩ | ⟨he,hb⟩
   ·obtain ⟨a1,a2,a3,a4⟩:=pe_ok _ _ _ _ _ rfl he hsl
    have a4:=a4 rfl
    simp only at a1 a2 a4
    rw [he,z0R] at hx
    exact .inl ⟨q',sym',hb,a2,hx,by omega⟩
   ·rw [he] at hx
    exact .inr ⟨hb,hx.symm⟩
  refine z1A (out:=flatE [.mk op' t' nl l]) (by rw [z0U];rfl) ?_
  refine st_appE (L:=L) (id:=id) (by rfl) (by rfl) hli3 (by omega) ?_
  intro H5 hl5 ho5 hlt5
  have hXl:=(List.getElem?_eq_some_iff.1 hb3).1
  refine z0B ?_
  exact ⟨m,by omega,_,L++[.mk op' t' nl l],b3,rfl,hl5,by omega,ho5 _ _ (by omega) hb3,⟨ho5 _ _ (by omega) m3.get,fun j b hj hb=>ho5 _ _ (by have:=(List.getElem?_eq_some_iff.1 hb).1;omega) (m3.old j b hj hb),by have:=m3.len;omega⟩,by omega,by simp,by simp;omega,by simpa using hJ⟩
 clear hli hb1 m1 hb0 hm hl1 hl2 m0 hne1 hJ
 rintro _ H1 ⟨id,L,b,tl,rfl,hli,hid,hb0,hm,hL,hLl,hst⟩
 refine z0B ?_
 have hne2:id≠H.length:=by omega
 cases h1:((L.length:Int)==1)
 ·have e1:oneOr 4 L=nd 4 L:=by
   match L,hL,h1 with
   | [_],_,h1=>simp at h1
   | _::_::_,_,_=>rfl
  rw [e1] at hst
  refine z0B ?_
  refine z0L rfl rfl ?_
  refine z0H rfl rfl hb0 rfl ?_
  refine z0B ?_
  exact z1G (z1E rfl (z0C hb0)) (z5E hst (z0A hli hne2) (by omega) (hm.own (Nat.le_refl _) (by omega)) hrl)
 ·match L,hL,h1,hli,hst with
  | [.mk op t' nl l],_,_,hli2,hst =>
   rw [z0U] at hli2
   refine z0B ?_
   refine z2X (i:=0) rfl rfl (by simp) ?_
   refine z0B ?_
   refine z0H rfl rfl hb0 z1C ?_
   refine z0B ?_
   exact z1G (z1E rfl (z0C hb0)) (z4C (z0X _ _ _ _).symm hst (hm.own (Nat.le_refl _) (by omega)))
  | _::_::_,_,h1,_,_=>simp at h1;omega
section steps
variable {H:Heap} {al:AL} {K:KL} {Qp:AL→AV→Heap→Prop} {os:List IOper} {d:Nat} {x y z:Arg}
theorem st_appN {id:Nat} {cs:List AV} {op:Int} {t:Bt} {nl:Bool} {l:List Ex} {X:Heap} (hx:evL al x=.sl id 0 1 3) (hy:evL al y=.sl X.length 0 1 3) (hg:X[id]? =some (.cells cs)) (hc:cs.length=3)
  (h:∀ H',H'[X.length+1]? =some (.cells (cs++flatE [.mk op t nl l]))→(∀ j b,j≠id→X[j]? =some b→H'[j]? =some b)→X.length+1<H'.length→VV PP os ((d,.sl (X.length+1) 0 2 3)::al) H' K Qp) :
  VV PP (⟨some d,.i (.m (.append 3 48)),[x,y],none,none⟩::os) al (X++[.cells (flatE [.mk op t nl l])]) K Qp:=by
 have hlt:=(List.getElem?_eq_some_iff.1 hg).1
 refine st_appG (m:=1) (ys:=flatE [.mk op t nl l]) hx (z0F hg) (by rw [hc];omega) (by rw [hy];exact srcOf_last (by rw [z2K];rfl)) (z4B _) (by omega) ?_
 have e1:((cs).drop 0).take (1*3)=cs:=by rw [List.drop_zero];exact List.take_of_length_le (by omega)
 rw [e1]
 have e2:(X++[Blk.cells (flatE [.mk op t nl l])]:Heap).length=X.length+1:=by simp
 rw [e2]
 refine h _ ?_ ?_ (by simp)
 ·rw [List.getElem?_append_right (by simp)];simp
 ·intro j b hj hb
  have:=(List.getElem?_eq_some_iff.1 hb).1
  rw [List.getElem?_append_left (by simp;omega),List.getElem?_set,if_neg (fun e=>hj e.symm)]
  exact z0F hb
end steps
theorem c249_0 {n:Nat} (hk:WR n 264 [] .chain):WR n 249 [.int .i64 0] .chain:=by
 intro rid s p sym H hg hp hs hne
 have hrl:=(List.getElem?_eq_some_iff.1 hg).1
 refine ACall.sealed (n:=H.length) ?_
 refine is249.c2 z0V mixed rfl ?_
 rw [List.append_nil]
 have m0:Mod H rid (advB s p sym false) (H++[B0]):=(Mod.refl hg).app _
 refine z0B ?_
 refine z5F (args:=[.ptr rid 0]) (by rfl) (hk m0.get hp hs hne) ?_
 intro op t nl l b H1 hst hm
 have hb0:H1[H.length]? =some B0:=hm.old _ _ (by omega) z0K
 refine z0H rfl rfl hb0 z1C ?_
 refine z0B ?_
 exact z1G (z1E rfl (z0C hb0)) (z4C (z0X _ _ _ _).symm hst ((m0.trans hm).own (Nat.le_refl _) (by omega)))
theorem c249L (n:Nat) {c:UInt8} {op nxs:Int} {nx:Md} (hk:∀ m,m≤n→WR m 249 [.int .i64 nxs] nx) (hsn:nx.sgn=true) (hfn:nx.fn=true) (hc:sg15.contains c=true) (hop:opR c.toNat=op) (hnx:tghR c.toNat=nxs)
  (n124:((c.toNat:Int) != 124)=true) (n38:((c.toNat:Int) != 38)=true):WR (n+1) 249 [.int .i64 c.toNat] (.left op [c] nx):=by
 intro rid s p sym H hg hp hs hne
 have hrl:=(List.getElem?_eq_some_iff.1 hg).1
 have hz:((c.toNat:Int)==0)=false:=by have:=(sg_min hc).1;rw [beq_eq_false_iff_ne];omega
 simp only [pe] at hne ⊢
 have hne1:pe n nx s p≠.oof:=fun e=>hne (by rw [e];rfl)
 generalize hX:(pe n nx s p).bind (fun a=>pe n (.leftL op [c] nx a.1) s a.2)=xx at hne ⊢
 refine ACall.sealed (n:=H.length) ?_
 refine is249.c2 z0V mixed rfl ?_
 rw [List.append_nil]
 have m0:Mod H rid (advB s p sym false) (H++[B0]):=(Mod.refl hg).app _
 refine z0B ?_
 refine z0G rfl (c265 _ _) ?_
 rw [hnx]
 refine z5F (args:=[.ptr rid 0,.int .i64 nxs]) (by rfl) (hk n (Nat.le_refl _) m0.get hp hs hne1) ?_
 intro op1 t nl l b H1 hst hm
 have hb0:H1[H.length]? =some B0:=hm.old _ _ (by omega) z0K
 have hJ:(∃ q sym,b=advB s q sym false∧q≤s.length∧pe n (.leftL op [c] nx (.mk op1 t nl l)) s q=xx)∨(FlB s b∧xx=.bad):=by
  rcases hst with ⟨q,sym',he,hb⟩ | ⟨he,hb⟩
  ·obtain ⟨a1,a2,a3,a4⟩:=pe_ok _ _ _ _ _ hsn he hp
   simp only at a1 a2
   rw [he,z0R] at hX
   exact .inl ⟨q,sym',hb,a2,hX⟩
  ·rw [he] at hX
   exact .inr ⟨hb,hX.symm⟩
 clear hst hX
 refine z1A (out:=flatE [.mk op1 t nl l]) (by rw [z0U];rfl) ?_
 have m1:=(m0.trans hm).app [.cells (flatE [.mk op1 t nl l])]
 have hb1:=z0F (G:=[.cells (flatE [.mk op1 t nl l])]) hb0
 have hli:(H1++[.cells (flatE [.mk op1 t nl l])])[H1.length]? =some (.cells (flatE [.mk op1 t nl l])):=z0K
 rw [z0U] at hli m1 hb1 ⊢
 have hl1:=(m0.trans hm).len
 have hl2:=(List.getElem?_eq_some_iff.1 hb0).1
 generalize (H1++[.cells [.int .i64 op1,.str t,lst nl l]]:Heap)=H2 at *
 generalize H1.length=id1 at *
 refine z0B ?_
 refine wi_cutB (fun al' H'=>∃ id c0 c1 c2 a b tl,al'=(0,.ptr rid 0)::(1,.int .i64 c.toNat)::(4,.ptr H.length 0)::(5,.sl id 0 1 3)::tl∧H'[id]? =some (.cells [c0,c1,c2])∧([c0,c1,c2]:List AV).all AV.scalar=true ∧
  Nest (H.length+1) H' id [c0,c1,c2] a∧H.length<id∧H'[H.length]? =some B0∧Mod H rid b H'∧StP s xx a b) ?_ ?_
 ·refine z1S (fun m al H'=>∃ id c0 c1 c2 a b,al=[(0,.ptr rid 0),(1,.int .i64 c.toNat),(4,.ptr H.length 0),(5,.sl id 0 1 3)]∧H'[id]? =some (.cells [c0,c1,c2])∧([c0,c1,c2]:List AV).all AV.scalar=true ∧
   Nest (H.length+1) H' id [c0,c1,c2] a∧H.length<id∧H'[H.length]? =some B0∧Mod H rid b H'∧m≤n ∧
   ((∃ q sym,b=advB s q sym false∧q≤s.length∧pe m (.leftL op [c] nx a) s q=xx)∨(FlB s b∧xx=.bad))) n ⟨id1,_,_,_,.mk op1 t nl l,b,rfl,hli,z1C,.base _ _ _ _ _,by omega,hb1,m1,Nat.le_refl _,hJ⟩ ?_
  clear hli hb1 m1 hb0 hm hl1 hl2 m0 hne1 hJ
  rintro m _ H1 ⟨id,c0,c1,c2,a,b,rfl,hli,hsc,hN,hid,hb0,hm,hmn,hJ⟩
  rcases hJ with ⟨q,sym',rfl,hq,hx⟩ | ⟨⟨a0,nx0,k,sym',bad,rfl,hf⟩,hxb⟩
  rotate_left
  ·
   have hg1:=hm.get
   have hst:StP s xx a (RE s a0 nx0 k sym' bad):=.inr ⟨hxb,_,_,_,_,_,rfl,hf⟩
   refine z0B ?_
   cases bad
   ·have hk4:k=4:=by simpa using hf
    subst hk4
    have h4:((4:Int)==(c.toNat:Int))=false:=by have:=(sg_min hc).1;rw [beq_eq_false_iff_ne];omega
    refine z0B ?_
    exact ⟨id,_,_,_,a,_,_,rfl,hli,hsc,hN,hid,hb0,hm,hst⟩
   ·refine z0B ?_
    exact ⟨id,_,_,_,a,_,_,rfl,hli,hsc,hN,hid,hb0,hm,hst⟩
  cases m with
  | zero=>exact absurd hx.symm hne
  | succ m =>
  simp only [pe] at hx
  obtain ⟨nx1,k,sym2,hopen,hO⟩:=adv_open sym' false hq
  have hm':=hm
  rw [hopen] at hm'
  have hg1:=hm'.get
  have hs1:=hO.sg hc
  refine z0B ?_
  rcases hs1 with ⟨hks,ht,hn1⟩ | ⟨hks,hs1⟩
  rotate_left
  ·rcases hs1 with ⟨ht,hk4⟩ | ht
   ·rw [ht,z2M] at hx
    refine z0B ?_
    exact ⟨id,_,_,_,a,_,_,rfl,hli,hsc,hN,hid,hb0,hm',.inr ⟨hx.symm,_,_,_,_,_,rfl,.inr hk4⟩⟩
   ·rw [ht,z0R] at hx
    simp only [Bool.false_eq_true,if_false] at hx
    refine z0B ?_
    exact ⟨id,_,_,_,a,_,_,rfl,hli,hsc,hN,hid,hb0,hm,StP.ok hx.symm (advB_skp _ _ _ _).symm⟩
  rw [ht,z0R] at hx
  simp only [if_true] at hx
  have hne3:pe m nx s nx1≠.oof:=fun e=>hne (by rw [←hx,e];rfl)
  refine z0B ?_
  refine z4Y rfl hg1 hn1 (by omega) fun v=>?_
  have m2:Mod H rid (advB s nx1 sym2 false) (H1.set rid (advB s nx1 sym2 false)):=hm.put
  have hli2:=z0A (y:=advB s nx1 sym2 false) hli (show id≠rid by omega)
  have hb2:=z0A (y:=advB s nx1 sym2 false) hb0 (show H.length≠rid by omega)
  have hN2:Nest (H.length+1) (H1.set rid (advB s nx1 sym2 false)) id [c0,c1,c2] a:=hN.mono (Nat.le_refl _) fun j b h1 h2 h3=>z0A h3 (by omega)
  generalize H1.set rid (advB s nx1 sym2 false)=H2 at *
  refine z0B ?_
  refine z0G rfl (c265 _ _) ?_
  rw [hnx]
  refine z5F (args:=[.ptr rid 0,.int .i64 nxs]) (by rfl) (hk m (by omega) m2.get hn1 hs hne3) ?_
  intro op' t' nl l b3 H3 hst hm3
  have hli3:=hm3.old _ _ (by omega) hli2
  have hb3:=hm3.old _ _ (by omega) hb2
  have m3:=m2.trans hm3
  have hN3:Nest (H.length+1) H3 id [c0,c1,c2] a:=hN2.mono (Nat.le_refl _) fun j b h1 h2 h3=>hm3.old j b (by omega) h3
  have hJ:(∃ q sym,b3=advB s q sym false∧q≤s.length∧pe m (.leftL op [c] nx (nd op [a,.mk op' t' nl l])) s q=xx)∨(FlB s b3∧xx=.bad):=by
   rcases hst with ⟨q',sym',he,hb⟩ | ⟨he,hb⟩
   ·obtain ⟨a1,a2,a3,a4⟩:=pe_ok _ _ _ _ _ hsn he hn1
    simp only at a1 a2
    rw [he,z0R] at hx
    exact .inl ⟨q',sym',hb,a2,hx⟩
   ·rw [he] at hx
    exact .inr ⟨hb,hx.symm⟩
  refine z1A (out:=flatE [.mk op' t' nl l]) (by rw [z0U];rfl) ?_
  refine st_appN (id:=id) (by rfl) (by rfl) hli3 rfl ?_
  intro H5 hl5 ho5 hlt5
  have hXl:=(List.getElem?_eq_some_iff.1 hli3).1
  have hb5:=ho5 _ _ (by omega) hb3
  have m5:Mod H rid b3 H5:=⟨ho5 _ _ (by omega) m3.get,fun j b hj hb=>ho5 _ _ (by have:=(List.getElem?_eq_some_iff.1 hb).1;omega) (m3.old j b hj hb),by have:=m3.len;omega⟩
  have hN5:Nest (H.length+1) H5 (H3.length+1) [c0,c1,c2] a:=hN3.mono (by omega) fun j b h1 h2 h3=>ho5 _ _ (by omega) h3
  have hid5:id<H3.length+1:=by omega
  generalize H3.length+1=id5 at *
  refine z0B ?_
  refine z0G rfl (c266 _ _) ?_
  rw [hop]
  refine z0B ?_
  refine z0L rfl rfl ?_
  refine z1A (out:=[.int .i64 op,.str [],.sl id5 0 2 3]) rfl ?_
  refine z0B ?_
  exact ⟨m,by omega,_,_,_,_,nd op [a,.mk op' t' nl l],b3,rfl,z0K,rfl,.node _ id5 op [c0,c1,c2] a [.mk op' t' nl l] (by omega) (by omega) (z0F hl5) rfl (hN5.mono (Nat.le_refl _) fun j b h1 h2 h3=>z0F h3),by omega,z0F hb5,m5.app _,by omega,hJ⟩
 clear hli hb1 m1 hb0 hm hl1 hl2 m0 hne1 hJ
 rintro _ H1 ⟨id,c0,c1,c2,a,b,tl,rfl,hli,hsc,hN,hid,hb0,hm,hst⟩
 refine z0B ?_
 refine z0H rfl rfl hb0 hsc ?_
 refine z0B ?_
 have hN3:Nest (H.length+1) (H1.set H.length (.cells [c0,c1,c2])) id [c0,c1,c2] a:=hN.mono (Nat.le_refl _) fun j b h1 h2 h3=>z0A h3 (by omega)
 obtain ⟨K,hK⟩:=hN3.seals.2 _ fun j b _ _ h=>h
 have hK:=hK.mono (m:=H.length) (by omega)
 have m3:Mod H rid b (H1.set H.length (.cells [c0,c1,c2])):=hm.own (Nat.le_refl _) (by omega)
 exact z1G (z1E rfl (z0C hb0)) (.inl ⟨_,_,K,rfl,hK,a,b,rfl,m3.seals hrl (Nat.le_refl _) hK,hst⟩)
theorem c249A (n:Nat) {c:UInt8} {op nxs:Int} {nx:Md} (hk:∀ m,m≤n→WR m 249 [.int .i64 nxs] nx) (hsn:nx.sgn=true) (hfn:nx.fn=true) (hc:sg15.contains c=true) (hop:opR c.toNat=op) (hnx:tghR c.toNat=nxs)
  (hno:((c.toNat:Int) != 124)=false∨((c.toNat:Int) != 124)=true∧((c.toNat:Int) != 38)=false):WR (n+1) 249 [.int .i64 c.toNat] (.all op [c] nx):=by
 intro rid s p sym H hg hp hs hne
 have hrl:=(List.getElem?_eq_some_iff.1 hg).1
 have hz:((c.toNat:Int)==0)=false:=by have:=(sg_min hc).1;rw [beq_eq_false_iff_ne];omega
 simp only [pe] at hne ⊢
 have hne1:pe n nx s p≠.oof:=fun e=>hne (by rw [e];rfl)
 generalize hX:(pe n nx s p).bind (fun a=>pe n (.allL op [c] nx [a.1]) s a.2)=xx at hne ⊢
 refine ACall.sealed (n:=H.length) ?_
 refine is249.c2 z0V mixed rfl ?_
 rw [List.append_nil]
 have m0:Mod H rid (advB s p sym false) (H++[B0]):=(Mod.refl hg).app _
 refine z0B ?_
 refine z0G rfl (c265 _ _) ?_
 rw [hnx]
 refine z5F (args:=[.ptr rid 0,.int .i64 nxs]) (by rfl) (hk n (Nat.le_refl _) m0.get hp hs hne1) ?_
 intro op1 t nl l b H1 hst hm
 have hb0:H1[H.length]? =some B0:=hm.old _ _ (by omega) z0K
 have hJ:(∃ q sym,b=advB s q sym false∧q≤s.length∧pe n (.allL op [c] nx [.mk op1 t nl l]) s q=xx∧1≤q)∨(FlB s b∧xx=.bad):=by
  rcases hst with ⟨q,sym',he,hb⟩ | ⟨he,hb⟩
  ·obtain ⟨a1,a2,a3,a4⟩:=pe_ok _ _ _ _ _ hsn he hp
   have a4:=a4 hfn
   simp only at a1 a2 a4
   rw [he,z0R] at hX
   exact .inl ⟨q,sym',hb,a2,hX,by omega⟩
  ·rw [he] at hX
   exact .inr ⟨hb,hX.symm⟩
 clear hst hX
 refine z1A (out:=flatE [.mk op1 t nl l]) (by rw [z0U];rfl) ?_
 have m1:=(m0.trans hm).app [.cells (flatE [.mk op1 t nl l])]
 have hb1:=z0F (G:=[.cells (flatE [.mk op1 t nl l])]) hb0
 have hli:(H1++[.cells (flatE [.mk op1 t nl l])])[H1.length]? =some (.cells (flatE [.mk op1 t nl l])):=z0K
 have hl1:=(m0.trans hm).len
 have hl2:=(List.getElem?_eq_some_iff.1 hb0).1
 generalize (H1++[.cells (flatE [.mk op1 t nl l])]:Heap)=H2 at *
 generalize H1.length=id1 at *
 refine z0B ?_
 refine wi_cutB (fun al' H'=>∃ id L b tl,al'=(0,.ptr rid 0)::(1,.int .i64 c.toNat)::(4,.ptr H.length 0)::(5,.sl id 0 L.length 3)::tl∧H'[id]? =some (.cells (flatE L))∧H.length<id∧H'[H.length]? =some B0∧Mod H rid b H'∧L≠[]∧L.length≤6001∧StP s xx (oneOr op L) b) ?_ ?_
 ·refine z1S (fun m al H'=>∃ id L b,al=[(0,.ptr rid 0),(1,.int .i64 c.toNat),(4,.ptr H.length 0),(5,.sl id 0 L.length 3)]∧H'[id]? =some (.cells (flatE L))∧H.length<id∧H'[H.length]? =some B0∧Mod H rid b H' ∧
   m≤n∧L≠[]∧L.length≤6001∧((∃ q sym,b=advB s q sym false∧q≤s.length∧pe m (.allL op [c] nx L) s q=xx∧L.length≤q)∨(FlB s b∧xx=.bad))) n ⟨id1,[.mk op1 t nl l],b,rfl,hli,by omega,hb1,m1,Nat.le_refl _,by simp,by simp,hJ⟩ ?_
  clear hli hb1 m1 hb0 hm hl1 hl2 m0 hne1 hJ
  rintro m _ H1 ⟨id,L,b,rfl,hli,hid,hb0,hm,hmn,hL,hLl,hJ⟩
  rcases hJ with ⟨q,sym',rfl,hq,hx,hLq⟩ | ⟨⟨a,nx0,k,sym',bad,rfl,hf⟩,hxb⟩
  rotate_left
  ·
   have hg1:=hm.get
   have hst:StP s xx (oneOr op L) (RE s a nx0 k sym' bad):=.inr ⟨hxb,_,_,_,_,_,rfl,hf⟩
   refine z0B ?_
   cases bad
   ·have hk4:k=4:=by simpa using hf
    subst hk4
    have h4:((4:Int)==(c.toNat:Int))=false:=by have:=(sg_min hc).1;rw [beq_eq_false_iff_ne];omega
    refine z0B ?_
    exact ⟨id,L,_,_,rfl,hli,hid,hb0,hm,hL,hLl,hst⟩
   ·refine z0B ?_
    exact ⟨id,L,_,_,rfl,hli,hid,hb0,hm,hL,hLl,hst⟩
  cases m with
  | zero=>exact absurd hx.symm hne
  | succ m =>
  simp only [pe] at hx
  obtain ⟨nx1,k,sym2,hopen,hO⟩:=adv_open sym' false hq
  have hm':=hm
  rw [hopen] at hm'
  have hg1:=hm'.get
  have hs1:=hO.sg hc
  refine z0B ?_
  rcases hs1 with ⟨hks,ht,hn1⟩ | ⟨hks,hs1⟩
  rotate_left
  ·rcases hs1 with ⟨ht,hk4⟩ | ht
   ·rw [ht,z2M] at hx
    refine z0B ?_
    exact ⟨id,L,_,_,rfl,hli,hid,hb0,hm',hL,hLl,.inr ⟨hx.symm,_,_,_,_,_,rfl,.inr hk4⟩⟩
   ·rw [ht,z0R] at hx
    simp only [Bool.false_eq_true,if_false] at hx
    refine z0B ?_
    exact ⟨id,L,_,_,rfl,hli,hid,hb0,hm,hL,hLl,StP.ok hx.symm (advB_skp _ _ _ _).symm⟩
  obtain ⟨t1,t2,t3⟩:=z2S ht hq
  have t3:=t3 rfl
  simp only [List.length_cons,List.length_nil] at t3
  rw [ht,z0R] at hx
  simp only [if_true] at hx
  have hne3:pe m nx s nx1≠.oof:=fun e=>hne (by rw [←hx,e];rfl)
  refine z0B ?_
  refine z4Y rfl hg1 hn1 (by omega) fun v=>?_
  have m2:Mod H rid (advB s nx1 sym2 false) (H1.set rid (advB s nx1 sym2 false)):=hm.put
  have hli2:=z0A (y:=advB s nx1 sym2 false) hli (show id≠rid by omega)
  have hb2:=z0A (y:=advB s nx1 sym2 false) hb0 (show H.length≠rid by omega)
  generalize H1.set rid (advB s nx1 sym2 false)=H2 at *
  refine z0B ?_
  refine z0G rfl (c265 _ _) ?_
  rw [hnx]
  refine z5F (args:=[.ptr rid 0,.int .i64 nxs]) (by rfl) (hk m (by omega) m2.get hn1 hs hne3) ?_
  intro op' t' nl l b3 H3 hst hm3
  have hli3:=hm3.old _ _ (by omega) hli2
  have hb3:=hm3.old _ _ (by omega) hb2
  have m3:=m2.trans hm3
  have hJ:(∃ q sym,b3=advB s q sym false∧q≤s.length∧pe m (.allL op [c] nx (L++[.mk op' t' nl l])) s q=xx∧L.length+1≤q)∨(FlB s b3∧xx=.bad):=by
   rcases hst with ⟨q',sym',he,hb⟩ | ⟨he,hb⟩
   ·obtain ⟨a1,a2,a3,a4⟩:=pe_ok _ _ _ _ _ hsn he hn1
    simp only at a1 a2 t1 t2
    rw [he,z0R] at hx
    exact .inl ⟨q',sym',hb,a2,hx,by omega⟩
   ·rw [he] at hx
    exact .inr ⟨hb,hx.symm⟩
  refine z1A (out:=flatE [.mk op' t' nl l]) (by rw [z0U];rfl) ?_
  refine st_appE (L:=L) (id:=id) (by rfl) (by rfl) hli3 (by omega) ?_
  intro H5 hl5 ho5 hlt5
  have hXl:=(List.getElem?_eq_some_iff.1 hb3).1
  have hend:∃ id' L' b',[(0,AV.ptr rid 0),(1,AV.int .i64 c.toNat),(4,AV.ptr H.length 0),(5,AV.sl (H3.length+1) 0 (L++[Ex.mk op' t' nl l]).length 3)]=[(0,AV.ptr rid 0),(1,AV.int .i64 c.toNat),(4,AV.ptr H.length 0),(5,AV.sl id' 0 L'.length 3)]∧H5[id']? =some (.cells (flatE L'))∧H.length<id'∧H5[H.length]? =some B0∧Mod H rid b' H5 ∧
    m≤n∧L'≠[]∧L'.length≤6001∧((∃ q sym,b'=advB s q sym false∧q≤s.length∧pe m (.allL op [c] nx L') s q=xx∧L'.length≤q)∨(FlB s b'∧xx=.bad)) :=
   ⟨_,L++[.mk op' t' nl l],b3,rfl,hl5,by omega,ho5 _ _ (by omega) hb3,⟨ho5 _ _ (by omega) m3.get,fun j b hj hb=>ho5 _ _ (by have:=(List.getElem?_eq_some_iff.1 hb).1;omega) (m3.old j b hj hb),by have:=m3.len;omega⟩,by omega,by simp,by simp;omega,by simpa using hJ⟩
  refine z0B ?_
  rcases hno with hno | ⟨hno,hno2⟩
  ·refine z0B ?_
   exact ⟨m,by omega,hend⟩
  ·refine z0B ?_
   exact ⟨m,by omega,hend⟩
 clear hli hb1 m1 hb0 hm hl1 hl2 m0 hne1 hJ
 rintro _ H1 ⟨id,L,b,tl,rfl,hli,hid,hb0,hm,hL,hLl,hst⟩
 refine z0B ?_
 have hne2:id≠H.length:=by omega
 cases h1:((L.length:Int)==1)
 ·have e1:oneOr op L=nd op L:=by
   match L,hL,h1 with
   | [_],_,h1=>simp at h1
   | _::_::_,_,_=>rfl
  rw [e1] at hst
  refine z0B ?_
  refine z0G rfl (c266 _ _) ?_
  rw [hop]
  refine z0B ?_
  refine z0L rfl rfl ?_
  refine z0H rfl rfl hb0 rfl ?_
  refine z0B ?_
  exact z1G (z1E rfl (z0C hb0)) (z5E hst (z0A hli hne2) (by omega) (hm.own (Nat.le_refl _) (by omega)) hrl)
 ·match L,hL,h1,hli,hst with
  | [.mk op' t' nl l],_,_,hli2,hst =>
   rw [z0U] at hli2
   refine z0B ?_
   refine z2X (i:=0) rfl rfl (by simp) ?_
   refine z0B ?_
   refine z0H rfl rfl hb0 z1C ?_
   refine z0B ?_
   exact z1G (z1E rfl (z0C hb0)) (z4C (z0X _ _ _ _).symm hst (hm.own (Nat.le_refl _) (by omega)))
  | _::_::_,_,h1,_,_=>simp at h1;omega
theorem WR.but {n:Nat} (h:∀ m,m+2≤n→WR m 249 [.int .i64 124] .or):WR n 249 [.int .i64 45] .but:=by
 cases n with
 | zero=>exact WR.zero
 | succ n =>
  intro rid s p sym H hg hp hs hne
  simp only [pe] at hne ⊢
  cases n with
  | zero=>exact absurd rfl hne
  | succ n=>exact c249L n (c:=45) (nxs:=124) (fun m hm=>h m (by omega)) rfl rfl rfl rfl rfl rfl rfl hg hp hs hne
theorem WR.or {n:Nat} (h:∀ m,m+2≤n→WR m 249 [.int .i64 38] .and):WR n 249 [.int .i64 124] .or:=by
 cases n with
 | zero=>exact WR.zero
 | succ n =>
  intro rid s p sym H hg hp hs hne
  simp only [pe] at hne ⊢
  cases n with
  | zero=>exact absurd rfl hne
  | succ n=>exact c249A n (c:=124) (nxs:=38) (fun m hm=>h m (by omega)) rfl rfl rfl rfl rfl (.inl rfl) hg hp hs hne
theorem WR.and {n:Nat} (h:∀ m,m+2≤n→WR m 249 [.int .i64 37] .shuffle):WR n 249 [.int .i64 38] .and:=by
 cases n with
 | zero=>exact WR.zero
 | succ n =>
  intro rid s p sym H hg hp hs hne
  simp only [pe] at hne ⊢
  cases n with
  | zero=>exact absurd rfl hne
  | succ n=>exact c249A n (c:=38) (nxs:=37) (fun m hm=>h m (by omega)) rfl rfl rfl rfl rfl (.inr ⟨rfl,rfl⟩) hg hp hs hne
theorem WR.shuffle {n:Nat} (h:∀ m,m+2≤n→WR m 249 [.int .i64 47] .ignore):WR n 249 [.int .i64 37] .shuffle:=by
 cases n with
 | zero=>exact WR.zero
 | succ n =>
  intro rid s p sym H hg hp hs hne
  simp only [pe] at hne ⊢
  cases n with
  | zero=>exact absurd rfl hne
  | succ n=>exact c249L n (c:=37) (nxs:=47) (fun m hm=>h m (by omega)) rfl rfl rfl rfl rfl rfl rfl hg hp hs hne
theorem WR.ignore {n:Nat} (h:∀ m,m+2≤n→WR m 249 [.int .i64 0] .chain):WR n 249 [.int .i64 47] .ignore:=by
 cases n with
 | zero=>exact WR.zero
 | succ n =>
  intro rid s p sym H hg hp hs hne
  simp only [pe] at hne ⊢
  cases n with
  | zero=>exact absurd rfl hne
  | succ n=>exact c249L n (c:=47) (nxs:=0) (fun m hm=>h m (by omega)) rfl rfl rfl rfl rfl rfl rfl hg hp hs hne
end Go.Ab
