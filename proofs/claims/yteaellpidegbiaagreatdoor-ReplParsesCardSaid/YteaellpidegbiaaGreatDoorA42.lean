/- Part 42 of the proof. -/
import Derived.Test.YteaellpidegbiaaGreatDoorA41
set_option linter.unusedVariables false
set_option linter.unusedSimpArgs false
namespace Go.Ab
open Go
set_option maxRecDepth 100000
set_option maxHeartbeats 8000000
theorem c247 {rid p nx:Nat} {kind:Int} {s sym:Bt} {bad:Bool} {H:Heap} (hg:H[rid]? =some (RE s p nx kind sym bad)) (hp:p<s.length) (hs:s.length≤100000) :
  ACall PP 247 [.ptr rid 0] H (fun r H'=>(∃ v,r=.ret v)∧H'=H.set rid (if angOk (s.drop p) then RE s p (p+angN (s.drop p)+1) 1 ((s.take (p+angN (s.drop p))).drop (p+1)) bad else RE s p nx 4 sym bad)):=by
 refine is247.c1 z0V mixed rfl ?_
 rw [List.append_nil]
 have hdl:(s.drop p).length=s.length-p:=List.length_drop
 have hget:∀ k,(s.drop p)[k]? =s[p+k]?:=fun k=>List.getElem?_drop
 have hax:angOk (s.drop p)=(decide (3≤angN (s.drop p))&&decide (angN (s.drop p)≤17)&&decide (angN (s.drop p)<(s.drop p).length)&&((s.drop p).getD (angN (s.drop p)) 0==62)):=rfl
 obtain ⟨c,hci⟩:=z1D (l:=s) (i:=p) hp
 obtain ⟨hl,hdr⟩:=List.getElem?_eq_some_iff.1 hci
 have hdc:s.drop p=c::s.drop (p+1):=by rw [List.drop_eq_getElem_cons hl,hdr]
 refine z0D ?_
 refine wi_cutB (fun al' H'=>∃ tl,al'=(0,.ptr rid 0)::(2,.int .i64 (p+angN (s.drop p):Nat))::tl∧H'=H∧p+angN (s.drop p)≤s.length) ?_ ?_
 ·refine z1F s.length (fun j al H'=>al=[(0,.ptr rid 0),(2,.int .i64 (p+1+j:Nat))]∧H'=H∧p+1+j≤s.length∧∀ k,1≤k→k<1+j→∃ x,(s.drop p)[k]? =some x∧isSig x=true) ⟨rfl,rfl,by omega,fun k h1 h2=>by omega⟩ ?_
  rintro j _ _ hj ⟨rfl,rfl,hjl,hjs⟩
  have after:(∀ x,(s.drop p)[1+j]? =some x→isSig x=false)→angN (s.drop p)=1+j:=fun h=>by
   rw [hdc] at h hjs ⊢
   exact angN_at (1+j) (by omega) hjs h (by rw [←hdc];omega)
  have hge:(s.drop p)[1+j]? =s[p+1+j]?:=by rw [hget,←Nat.add_assoc]
  refine z0D ?_
  cases b9:decide (((p+1+j:Nat):Int)<(s.length:Int))
  ·simp only [decide_eq_false_iff_not] at b9
   have ha:=after fun x hx=>by rw [hge,List.getElem?_eq_none (by omega)] at hx;cases hx
   rw [ha]
   refine z0D ?_
   exact ⟨_,by rw [←Nat.add_assoc],rfl,by omega⟩
  ·simp only [decide_eq_true_eq] at b9
   obtain ⟨x,hxn⟩:=z1D (l:=s) (i:=p+1+j) (by omega)
   refine z0D ?_
   refine z0G rfl (c248 x _) ?_
   refine z0D ?_
   cases b10:isSig x
   ·have ha:=after fun y hy=>by rw [hge,hxn] at hy;injection hy with hy;subst hy;exact b10
    rw [ha]
    refine z0D ?_
    exact ⟨_,by rw [←Nat.add_assoc],rfl,by omega⟩
   ·refine z0D ?_
    refine ⟨by omega,rfl,rfl,by omega,fun k h1 h2=>?_⟩
    by_cases hk:k=1+j
    ·subst hk;exact ⟨x,by rw [hge,hxn],b10⟩
    ·exact hjs k h1 (by omega)
 rintro _ H2 ⟨tl,rfl,rfl,hnl⟩
 have hn1:1≤angN (s.drop p):=by unfold angN;omega
 have hgn:(s.drop p).getD (angN (s.drop p)) 0=s.getD (p+angN (s.drop p)) 0:=by
  rw [List.getD_eq_getElem?_getD,List.getD_eq_getElem?_getD,hget]
 rw [hgn,hdl] at hax
 rw [hax]
 generalize angN (s.drop p)=n at *
 clear hax hgn
 refine z0D ?_
 refine z3H (a:=((p+n:Nat):Int)) (b:=(p:Int)) rfl rfl (by omega) (by omega) ?_
 refine z3H (a:=((p+n:Nat):Int)-(p:Int)) (b:=1) rfl rfl (by omega) (by omega) ?_
 rw [show ((p+n:Nat):Int)-(p:Int)-1=((n-1:Nat):Int) by omega]
 have hb:(decide (3≤n)&&decide (n≤17)&&decide (n<s.length-p)&&(s.getD (p+n) 0==62))=(decide (((p+n:Nat):Int)<(s.length:Int))&&(s.getD (p+n) 0==62)&&decide (((n-1:Nat):Int)≥2)&&decide (((n-1:Nat):Int)≤16)):=by
  generalize (s.getD (p+n) 0==62)=q
  have d1:decide (3≤n)=decide (((n-1:Nat):Int)≥2):=by simp only [decide_eq_decide];omega
  have d2:decide (n≤17)=decide (((n-1:Nat):Int)≤16):=by simp only [decide_eq_decide];omega
  have d3:decide (n<s.length-p)=decide (((p+n:Nat):Int)<(s.length:Int)):=by simp only [decide_eq_decide];omega
  rw [d1,d2,d3]
  cases decide (((n-1:Nat):Int)≥2)<;>cases decide (((n-1:Nat):Int)≤16)<;>cases decide (((p+n:Nat):Int)<(s.length:Int))<;>cases q<;>rfl
 rw [hb]
 refine z0D ?_
 refine z1Y [(0,.ptr rid 0),(2,.int .i64 (p+n:Nat)),(57,.bool (decide (((p+n:Nat):Int)<(s.length:Int))&&(s.getD (p+n) 0==62)&&decide (((n-1:Nat):Int)≥2)&&decide (((n-1:Nat):Int)≤16)))] H2 ?_ ?_
 ·cases a1:decide (((p+n:Nat):Int)<(s.length:Int))
  ·refine z0D ?_
   exact z0S rfl rfl
  ·simp only [decide_eq_true_eq] at a1
   obtain ⟨x,hxn⟩:=z1D (l:=s) (i:=p+n) (by omega)
   have e62:((x.toNat:Int)==62)=(x==62):=z1T x 62
   rw [z3L hxn]
   refine z0D ?_
   rw [e62]
   cases a2:(x==62)
   ·refine z0D ?_
    exact z0S rfl rfl
   ·refine z0D ?_
    cases a3:decide (((n-1:Nat):Int)≥2)
    ·refine z0D ?_
     exact z0S rfl rfl
    ·refine z0D ?_
     exact z0S rfl rfl
 cases hok:(decide (((p+n:Nat):Int)<(s.length:Int))&&(s.getD (p+n) 0==62)&&decide (((n-1:Nat):Int)≥2)&&decide (((n-1:Nat):Int)≤16))
 ·simp only [Bool.false_eq_true,if_false]
  refine z0D ?_
  refine z0P (v:=.int .i64 4) rfl rfl hg rfl (by simp) ?_
  refine z0D ?_
  exact fp_n rfl ⟨⟨_,rfl⟩,rfl⟩
 ·simp only [Bool.and_eq_true,decide_eq_true_eq] at hok
  simp only [if_true]
  refine walkN ?_
  refine iw_drawY ?_
  refine z2J rfl rfl (z1W _ rfl (z0M ?_))
  refine z2J rfl rfl (z1W _ rfl (z0M ?_))
  refine z2J rfl rfl (z1W _ rfl (z0M ?_))
  refine z2J rfl rfl (z1W _ rfl (z0M ?_))
  refine z2J rfl rfl (z2B rfl (z0M ?_))
  refine z2J rfl rfl (z1B rfl (z0M ?_))
  refine vy_l rfl rfl (z1N (v:=.str s) rfl hg rfl (z0M ?_))
  refine z2J rfl rfl (z1W _ rfl (z0M ?_))
  refine z2J rfl rfl (z2B rfl (z0M ?_))
  refine z2J rfl rfl (z1B rfl (z0M ?_))
  refine vy_l rfl rfl (z1N (v:=.int .i64 p) rfl hg rfl (z0M ?_))
  refine z2J rfl rfl (z4W (a:=p) rfl (by omega) (z0M ?_))
  refine z2J rfl rfl (z1W _ rfl (z0M ?_))
  refine z2J rfl rfl (z3E (i:=p+1) (j:=p+n) rfl rfl rfl (by omega) (by omega) (z0M ?_))
  refine z2J rfl rfl (z1W _ rfl (z0M ?_))
  refine z2J rfl rfl (z4W (a:=p+n) rfl (by omega) (z0M ?_))
  refine z2J rfl rfl (z2B rfl (z0M ?_))
  refine z2J rfl rfl (z1B rfl (z0M ?_))
  refine vy_b rfl rfl rfl (Nat.le_refl _) (z0P (v:=.int .i64 1) rfl rfl hg rfl (by simp) (z2U ?_))
  have hg2:=z0C (y:=RE s p nx 1 sym bad) hg
  show VY _ _ _ _ _ _ _ _ _ (H2.set rid (RE s p nx 1 sym bad))
  have hl2:(H2.set rid (RE s p nx 1 sym bad)).length=H2.length:=List.length_set
  refine z2J rfl rfl (z2B rfl (z0M ?_))
  refine z2J rfl rfl (z1B rfl (z0M ?_))
  refine vy_b rfl rfl rfl (by omega) (z0P (v:=.str ((s.take (p+n)).drop (p+1))) rfl rfl hg2 rfl (by simp) (z2U ?_))
  rw [List.set_set]
  have hg3:=z0C (y:=RE s p nx 1 ((s.take (p+n)).drop (p+1)) bad) hg
  show VY _ _ _ _ _ _ _ _ _ (H2.set rid (RE s p nx 1 ((s.take (p+n)).drop (p+1)) bad))
  have hl3:(H2.set rid (RE s p nx 1 ((s.take (p+n)).drop (p+1)) bad)).length=H2.length:=List.length_set
  refine z2J rfl rfl (z2B rfl (z0M ?_))
  refine z2J rfl rfl (z1B rfl (z0M ?_))
  refine vy_b rfl rfl rfl (by omega) (z0P (v:=.int .i64 (p+n+1:Nat)) rfl rfl hg3 rfl (by simp) (z2U ?_))
  rw [List.set_set]
  refine vy_done ?_
  refine z0D ?_
  exact z1G rfl ⟨⟨_,rfl⟩,rfl⟩
theorem z2D {g n:Prop} (k:n) (h:Hide n→g:=by (intro k);(repeat (first | ((with_reducible apply z1W);focus (first | exact ev_c | (apply ev_t;(repeat (first | exact z1K | (apply z0Y;focus exact rfl) | exact lk_nil))))) | ((with_reducible apply z2B);exact rfl) | ((with_reducible apply st_iface);exact rfl) | ((with_reducible apply z4Q);exact rfl;exact rfl;(focus omega)) | ((with_reducible apply z3R);exact rfl;exact rfl;(focus omega)) | ((with_reducible apply z1M)) | ((with_reducible apply z4U);exact rfl;(focus assumption)) | ((with_reducible apply st_mkfB);exact rfl) | ((with_reducible apply st_adds);exact rfl;exact rfl;(focus ((try simp only [List.length_append,List.length_cons,List.length_nil]);omega))) | ((with_reducible apply st_idxA);(focus (first | exact ev_c | (apply ev_t;(repeat (first | exact z1K | (apply z0Y;focus exact rfl) | exact lk_nil)))));(focus assumption);exact rfl;(focus assumption)) | ((with_reducible apply st_idxS);(focus (first | exact ev_c | (apply ev_t;(repeat (first | exact z1K | (apply z0Y;focus exact rfl) | exact lk_nil)))));(focus assumption);exact rfl;(focus assumption)) | ((with_reducible apply z3T);exact rfl;exact rfl) | ((with_reducible apply z3F);exact rfl) | ((with_reducible apply st_lss);exact rfl;exact rfl) | ((with_reducible apply st_eqi);exact rfl;exact rfl) | ((with_reducible apply st_field);exact rfl;exact rfl) | ((with_reducible apply z3G);exact rfl;exact rfl) | ((with_reducible apply st_gtr);exact rfl;exact rfl) | ((with_reducible apply st_leq);exact rfl;exact rfl) | ((with_reducible apply st_geq);exact rfl;exact rfl) | ((with_reducible apply st_nei);exact rfl;exact rfl) | ((with_reducible apply st_eqs);exact rfl;exact rfl) | ((with_reducible apply st_nes);exact rfl;exact rfl) | ((with_reducible apply st_lts);exact rfl;exact rfl) | ((with_reducible apply st_gts);exact rfl;exact rfl) | ((with_reducible apply st_not);exact rfl) | ((with_reducible apply z3V);exact rfl;exact rfl) | ((with_reducible apply z4F);exact rfl;exact rfl) | ((with_reducible apply st_len);(focus (first | exact ev_c | (apply ev_t;(repeat (first | exact z1K | (apply z0Y;focus exact rfl) | exact lk_nil)))));(focus assumption)) | ((with_reducible apply st_idx);(focus (first | exact ev_c | (apply ev_t;(repeat (first | exact z1K | (apply z0Y;focus exact rfl) | exact lk_nil)))));(focus assumption);exact rfl;(focus assumption)) | ((with_reducible apply z3U);exact rfl;exact rfl;(focus assumption)) | ((with_reducible apply z2T);exact rfl;exact rfl;exact rfl;exact rfl;exact rfl;(focus (first | exact rfl | exact z1C));exact rfl) | ((with_reducible apply z3S);exact rfl;exact rfl;exact rfl) | ((with_reducible apply z4V);exact rfl;(focus (first | assumption | exact z0F (by assumption)));exact rfl) | ((with_reducible apply z2Y);exact rfl;exact rfl) | ((with_reducible apply z2Z);exact rfl;(focus (first | exact ev_c | (apply ev_t;(repeat (first | exact z1K | (apply z0Y;focus exact rfl) | exact lk_nil)))));exact rfl;exact rfl;exact rfl;exact rfl) | ((with_reducible apply z4E);exact rfl;exact rfl;exact rfl) | ((with_reducible apply z1N);exact rfl;(focus (first | assumption | exact z0F (by assumption)));exact rfl) | ((with_reducible apply st_box);(focus (first | exact ev_c | (apply ev_t;(repeat (first | exact z1K | (apply z0Y;focus exact rfl) | exact lk_nil)))));exact rfl;exact rfl;exact rfl) | ((with_reducible apply z1B);exact rfl) | ((with_reducible apply z3J);exact rfl) | ((with_reducible apply z2X);exact rfl;exact rfl;(focus (first | decide | omega))) | ((with_reducible apply z4W);exact rfl;(focus omega)) | ((with_reducible apply z3N);focus (repeat (first | exact kp_nil | ((with_reducible apply kp);focus (repeat (first | exact z1K | (apply z0Y;focus exact rfl) | exact lk_nil)))))) | ((with_reducible apply vs_end);focus (repeat (first | exact kp_nil | ((with_reducible apply kp);focus (repeat (first | exact z1K | (apply z0Y;focus exact rfl) | exact lk_nil)))))) | ((with_reducible apply vs_q);exact rfl;exact rfl) | ((with_reducible apply vs_b);exact rfl;exact rfl;(focus exact Nat.le_refl _)) | ((with_reducible apply st_finB)) | (with_reducible apply st_finQ) | ((with_reducible apply z4R);(focus (first | exact rfl | exact congrArg AV.bool (by assumption)));(focus (first | exact ev_c | (apply ev_t;(repeat (first | exact z1K | (apply z0Y;focus exact rfl) | exact lk_nil)))))) | ((with_reducible apply z4S);(focus (first | exact rfl | exact congrArg AV.bool (by assumption)));(focus (first | exact ev_c | (apply ev_t;(repeat (first | exact z1K | (apply z0Y;focus exact rfl) | exact lk_nil)))))) | ((with_reducible apply st_yes);(focus (first | exact rfl | exact congrArg AV.bool (by assumption)))) | ((with_reducible apply st_noT);(focus (first | exact rfl | exact congrArg AV.bool (by assumption)))) | ((with_reducible apply st_noF);(focus (first | exact rfl | exact congrArg AV.bool (by assumption)))) | ((with_reducible apply st_no');exact rfl) | with_reducible refine z2W ?_ | with_reducible refine z1Z ?_ | with_reducible refine nx_n ?_ | with_reducible refine z4A ?_ | with_reducible refine z5D ?_ | with_reducible refine iw_ret ?_ | with_reducible refine iw_exit ?_ | with_reducible refine nx_x ?_ | with_reducible refine nx_r ?_ | with_reducible refine bk_n ?_ | with_reducible refine bk_r ?_ | with_reducible refine bk_x ?_ | with_reducible refine bk_y rfl ?_ | ((with_reducible apply iw_yes);(focus (first | exact rfl | exact congrArg AV.bool (by assumption)))) | ((with_reducible apply iw_no);(focus (first | exact rfl | exact congrArg AV.bool (by assumption)))) | refine z2W ?_ | refine iw_drawq rfl rfl ?_));(exact k.h)):g:=h ⟨k⟩
def advB (s:Bt) (p:Nat) (sym:Bt) (bad:Bool):Blk :=
 match tok (s.drop (skp s p)) with
 | none=>RE s (skp s p) (skp s p+1) 4 sym bad
 | some t=>RE s (skp s p) (skp s p+t.length) (tkK (some t)) (if tkK (some t)==1 then tkS t else sym) bad
theorem isAl_ne {c:UInt8} (h:isAl c=true) {d:UInt8} (hd:isAl d=false):c≠d:=fun e=>by rw [e,hd] at h;cases h
theorem tkK_al {c:UInt8} (h:isAl c=true):tkK (some [c])=1:=by
 unfold tkK
 simp [h]
theorem tkS_al {c:UInt8} (h:isAl c=true):tkS [c]=[c]:=by
 unfold tkS
 have h1:=isAl_ne h (d:=92) (by decide)
 have h2:=isAl_ne h (d:=60) (by decide)
 simp [h1,h2]
theorem tok_cons (c:UInt8) (t:Bt):tok (c::t)=if isAl c then some [c] else if c==60 then (if angOk (c::t) then some ((c::t).take (angN (c::t)+1)) else none)
  else if c==92&&isSig (t.headD 0) && !isAl (t.headD 0) then some ((c::t).take 2) else if c==61&&t.headD 0==62 then some [61,62] else if c==91&&t.headD 0==93 then some [91,93]
  else if sg15.contains c then some [c] else none:=by
 have h0:tok (c::t)=if (c::t).take 2==[61,62]||(c::t).take 2==[91,93] then some ((c::t).take 2)
  else if isAl c||sg15.contains c then some [c]
  else if c==92&&(t != [])&&isSig (t.headD 0) && !isAl (t.headD 0) then some ((c::t).take 2)
  else if c==60&&angOk (c::t) then some ((c::t).take (angN (c::t)+1)) else none:=rfl
 have e1:((c::t).take 2==[61,62])=(c==61&&t.headD 0==62):=by
  cases t with
  | nil=>cases hc:c==61<;>simp_all
  | cons d t =>
   show ((c::d::List.take 0 t)==_)=(c==61&&d==62)
   simp [List.take_zero,Bool.and_true]
 have e2:((c::t).take 2==[91,93])=(c==91&&t.headD 0==93):=by
  cases t with
  | nil=>cases hc:c==91<;>simp_all
  | cons d t =>
   show ((c::d::List.take 0 t)==_)=(c==91&&d==93)
   simp [List.take_zero,Bool.and_true]
 have e3:(c==92&&(t != [])&&isSig (t.headD 0) && !isAl (t.headD 0))=(c==92&&isSig (t.headD 0) && !isAl (t.headD 0)):=by
  cases t with
  | nil =>
   have:isSig (([]:Bt).headD 0)=false:=by decide
   rw [this];simp
  | cons d t =>
   have:((d::t) != ([]:Bt))=true:=rfl
   rw [this,Bool.and_true]
 have e4:((c::t).take 2==[61,62])=true→(c::t).take 2=[61,62]:=fun h=>by simpa using h
 have e5:((c::t).take 2==[91,93])=true→(c::t).take 2=[91,93]:=fun h=>by simpa using h
 rw [h0,e3]
 generalize (c::t).take 2=u at *
 generalize (c::t).take (angN (c::t)+1)=v at *
 generalize angOk (c::t)=o at *
 generalize t.headD 0=d at *
 rw [e1] at e4 ⊢
 rw [e2] at e5 ⊢
 clear e1 e2 e3 h0
 cases ha:isAl c
 ·by_cases h60:c=60
  ·subst h60
   cases o<;>rfl
  ·have n60:(c==60)=false:=by simpa using h60
   rw [n60]
   by_cases h92:c=92
   ·subst h92
    cases isSig d<;>cases isAl d<;>rfl
   ·have n92:(c==92)=false:=by simpa using h92
    rw [n92]
    cases h1:(c==61&&d==62)
    ·cases h2:(c==91&&d==93)
     ·simp
     ·simp [e5 h2]
    ·simp [e4 h1]
 ·have n1:(c==61)=false:=by simpa using isAl_ne ha (d:=61) (by decide)
  have n2:(c==91)=false:=by simpa using isAl_ne ha (d:=91) (by decide)
  rw [n1,n2];simp
theorem ang_tok {r:Bt} (h0:r.headD 0=60) (h:angOk r=true):(r.take (angN r+1)).length=angN r+1∧tkK (some (r.take (angN r+1)))=1∧tkS (r.take (angN r+1))=(r.take (angN r)).drop 1:=by
 unfold angOk at h
 simp only [Bool.and_eq_true,decide_eq_true_eq] at h
 obtain ⟨⟨⟨h3,h17⟩,hlt⟩,_⟩:=h
 generalize angN r=n at *
 have hl:(r.take (n+1)).length=n+1:=by rw [List.length_take];omega
 have hd:(r.take (n+1)).headD 0=60:=by
  cases r with
  | nil=>simp at hlt
  | cons c t=>simpa using h0
 refine ⟨hl,?_,?_⟩
 ·match hr:r.take (n+1),hl,hd with
  | [],hl,_=>simp at hl
  | [_],hl,_=>simp at hl;omega
  | [_,_],hl,_=>simp at hl;omega
  | a::b::c::t,_,_=>simp [tkK]
 ·unfold tkS
  rw [hd,hl]
  show ((r.take (n+1)).take (n+1-1)).drop 1=_
  rw [List.take_take];congr 2;omega
theorem c215 {rid a0 nx:Nat} {kind:Int} {s sym:Bt} {bad:Bool} {H:Heap} (hg:H[rid]? =some (RE s a0 nx kind sym bad)) (hp:nx≤s.length) (hs:s.length≤100000) :
  ACall PP 215 [.ptr rid 0] H (fun r H'=>(∃ v,r=.ret v)∧H'=H.set rid (advB s nx sym bad)):=by
 refine is215.c1 z0V mixed rfl ?_
 rw [List.append_nil]
 refine z0D ?_
 refine z0P (v:=.int .i64 nx) rfl rfl hg rfl (by simp) ?_
 show VV _ _ _ (H.set rid (RE s nx nx kind sym bad)) _ _
 refine z0D ?_
 refine wi_cutB (fun al' H'=>∃ tl,al'=(0,.ptr rid 0)::tl∧H'=H.set rid (RE s (skp s nx) nx kind sym bad)) ?_ ?_
 ·refine z1S (fun m al H'=>∃ a:Nat,al=[(0,.ptr rid 0)]∧H'=H.set rid (RE s a nx kind sym bad)∧a≤s.length∧skp s a=skp s nx∧a+m=s.length) (s.length-nx) ⟨nx,rfl,rfl,hp,rfl,by omega⟩ ?_
  rintro m _ _ ⟨a,rfl,rfl,hal,hsk,ham⟩
  have hga:=z0C (y:=RE s a nx kind sym bad) hg
  refine z0D ?_
  cases hc:decide ((a:Int)<(s.length:Int))
  ·simp only [decide_eq_false_iff_not] at hc
   have:skp s a=a:=z4Z (by rw [List.getElem?_eq_none (by omega)];simp)
   refine z0D ?_
   exact ⟨_,rfl,by rw [←hsk,this]⟩
  ·simp only [decide_eq_true_eq] at hc
   obtain ⟨c,hci⟩:=z1D (l:=s) (i:=a) (by omega)
   have e32:((c.toNat:Int)==32)=(c==32):=z1T c 32
   refine z0D ?_
   rw [e32]
   cases h32:(c==32)
   ·have:skp s a=a:=z4Z (by rw [hci];intro e;injection e with e;subst e;cases h32)
    refine z0D ?_
    exact ⟨_,rfl,by rw [←hsk,this]⟩
   ·have hc32:c=32:=by simpa using h32
    subst hc32
    refine z0D ?_
    refine z0P (v:=.int .i64 (a+1:Nat)) rfl rfl hga rfl (by simp) ?_
    show VV _ _ _ ((H.set rid (RE s a nx kind sym bad)).set rid (RE s (a+1) nx kind sym bad)) _ _
    rw [List.set_set]
    refine z0D ?_
    exact ⟨m-1,by omega,a+1,rfl,rfl,by omega,by rw [←hsk,skp_blank hci],by omega⟩
 rintro _ _ ⟨tl,rfl,rfl⟩
 have hq:=z5A hp
 unfold advB
 generalize skp s nx=q at *
 have hgq:=z0C (y:=RE s q nx kind sym bad) hg
 have hgl:(H.set rid (RE s q nx kind sym bad)).length=H.length:=List.length_set
 refine z2D ?_
 cases hend:decide ((q:Int)≥(s.length:Int))
 rotate_left
 ·simp only [decide_eq_true_eq] at hend
  have hqe:q=s.length:=by omega
  have hdr:s.drop q=[]:=List.drop_eq_nil_of_le (by omega)
  have ht:tok (s.drop q)=some []:=by rw [hdr];rfl
  rw [ht]
  refine z2D ?_
  refine iw_drawY ?_
  refine z2J rfl rfl (z1W _ rfl (z0M ?_))
  refine z2J rfl rfl (z1W _ rfl (z0M ?_))
  refine z2J rfl rfl (z1W _ rfl (z0M ?_))
  refine z2J rfl rfl (z1W _ rfl (z0M ?_))
  refine z2J rfl rfl (z2B rfl (z0M ?_))
  refine z2J rfl rfl (z1B rfl (z0M ?_))
  refine vy_l rfl rfl (z1N (v:=.str s) rfl hgq rfl (z0M ?_))
  refine z2J rfl rfl (z3F rfl (z0M ?_))
  refine z2J rfl rfl (z1W _ rfl (z0M ?_))
  refine z2J rfl rfl (z2B rfl (z0M ?_))
  refine z2J rfl rfl (z1B rfl (z0M ?_))
  refine vy_l rfl rfl (z1N (v:=.str s) rfl hgq rfl (z0M ?_))
  refine z2J rfl rfl (z3F rfl (z0M ?_))
  refine z2J rfl rfl (z2B rfl (z0M ?_))
  refine z2J rfl rfl (z1B rfl (z0M ?_))
  refine vy_b rfl rfl rfl (Nat.le_refl _) (z0P (v:=.int .i64 (s.length:Nat)) rfl rfl hgq rfl (by simp) (z2U ?_))
  rw [List.set_set]
  have k1:=z0C (y:=RE s s.length nx kind sym bad) hg
  show VY _ _ _ _ _ _ _ _ _ (H.set rid (RE s s.length nx kind sym bad))
  have k1l:(H.set rid (RE s s.length nx kind sym bad)).length=H.length:=List.length_set
  refine z2J rfl rfl (z2B rfl (z0M ?_))
  refine z2J rfl rfl (z1B rfl (z0M ?_))
  refine vy_b rfl rfl rfl (by omega) (z0P (v:=.int .i64 (s.length:Nat)) rfl rfl k1 rfl (by simp) (z2U ?_))
  rw [List.set_set]
  have k2:=z0C (y:=RE s s.length s.length kind sym bad) hg
  show VY _ _ _ _ _ _ _ _ _ (H.set rid (RE s s.length s.length kind sym bad))
  have k2l:(H.set rid (RE s s.length s.length kind sym bad)).length=H.length:=List.length_set
  refine z2J rfl rfl (z2B rfl (z0M ?_))
  refine z2J rfl rfl (z1B rfl (z0M ?_))
  refine vy_b rfl rfl rfl (by omega) (z0P (v:=.int .i64 0) rfl rfl k2 rfl (by simp) (z2U ?_))
  rw [List.set_set]
  have k3:=z0C (y:=RE s s.length s.length 0 sym bad) hg
  show VY _ _ _ _ _ _ _ _ _ (H.set rid (RE s s.length s.length 0 sym bad))
  have k3l:(H.set rid (RE s s.length s.length 0 sym bad)).length=H.length:=List.length_set
  refine vy_done ?_
  refine z0D ?_
  exact z1G rfl ⟨⟨_,rfl⟩,by rw [hqe];rfl⟩
 simp only [decide_eq_false_iff_not] at hend
 obtain ⟨c,hci⟩:=z1D (l:=s) (i:=q) (by omega)
 obtain ⟨hl,hdr⟩:=List.getElem?_eq_some_iff.1 hci
 have hdc:s.drop q=c::s.drop (q+1):=by rw [List.drop_eq_getElem_cons hl,hdr]
 refine z2D ?_
 refine z0P (v:=.int .i64 (q+1:Nat)) rfl rfl hgq rfl (by simp) ?_
 show VV _ _ _ ((H.set rid (RE s q nx kind sym bad)).set rid (RE s q (q+1) kind sym bad)) _ _
 rw [List.set_set]
 have hg1:=z0C (y:=RE s q (q+1) kind sym bad) hg
 have hg1l:(H.set rid (RE s q (q+1) kind sym bad)).length=H.length:=List.length_set
 refine z2D ?_
 refine wi_cut (fun al' H'=>∃ tl,al'=(0,.ptr rid 0)::(2,.int .u8 c.toNat)::(3,.int .u8 (s.getD (q+1) 0).toNat)::tl∧H'=H.set rid (RE s q (q+1) kind sym bad)) ?_ ?_
 ·cases hc2:decide (((q+1:Nat):Int)<(s.length:Int))
  ·simp only [decide_eq_false_iff_not] at hc2
   have:s.getD (q+1) 0=0:=by rw [List.getD_eq_getElem?_getD,List.getElem?_eq_none (by omega)];rfl
   rw [this]
   refine z2D ?_
   exact ⟨_,rfl,rfl⟩
  ·simp only [decide_eq_true_eq] at hc2
   obtain ⟨f,hf⟩:=z1D (l:=s) (i:=q+1) (by omega)
   rw [z3L hf]
   refine z2D ?_
   exact ⟨_,rfl,rfl⟩
 rintro _ _ ⟨tl2,rfl,rfl⟩
 have htk:=tok_cons c (s.drop (q+1))
 have hhd:(s.drop (q+1)).headD 0=s.getD (q+1) 0:=by
  rw [List.headD_eq_head?_getD,List.head?_drop,List.getD_eq_getElem?_getD]
 rw [hhd] at htk
 rw [hdc]
 have hff:isSig (s.getD (q+1) 0)=true→s[q+1]? =some (s.getD (q+1) 0):=fun h=>by
  refine getD_get (Classical.byContradiction fun hn=>?_)
  rw [List.getD_eq_getElem?_getD,List.getElem?_eq_none (by omega)] at h
  revert h;decide
 generalize s.getD (q+1) 0=f at *
 refine z2D ?_
 refine z0G rfl (c220 c _) ?_
 refine z2D ?_
 cases hal:isAl c
 rotate_left
 ·rw [hal] at htk
  simp only [if_true] at htk
  rw [htk]
  have hk:tkK (some [c])=1:=tkK_al hal
  have hS:tkS [c]=[c]:=tkS_al hal
  simp only [hk,hS]
  have hsl:(s.take (q+1)).drop q=[c]:=by
   rw [z4P hci (Nat.le_refl _),List.drop_eq_nil_of_le (by rw [List.length_take];omega)];rfl
  refine z2D ?_
  refine iw_drawY ?_
  refine z2J rfl rfl (z1W _ rfl (z0M ?_))
  refine z2J rfl rfl (z1W _ rfl (z0M ?_))
  refine z2J rfl rfl (z1W _ rfl (z0M ?_))
  refine z2J rfl rfl (z2B rfl (z0M ?_))
  refine z2J rfl rfl (z1B rfl (z0M ?_))
  refine vy_l rfl rfl (z1N (v:=.str s) rfl hg1 rfl (z0M ?_))
  refine z2J rfl rfl (z1W _ rfl (z0M ?_))
  refine z2J rfl rfl (z2B rfl (z0M ?_))
  refine z2J rfl rfl (z1B rfl (z0M ?_))
  refine vy_l rfl rfl (z1N (v:=.int .i64 q) rfl hg1 rfl (z0M ?_))
  refine z2J rfl rfl (z1W _ rfl (z0M ?_))
  refine z2J rfl rfl (z2B rfl (z0M ?_))
  refine z2J rfl rfl (z1B rfl (z0M ?_))
  refine vy_l rfl rfl (z1N (v:=.int .i64 (q+1:Nat)) rfl hg1 rfl (z0M ?_))
  refine z2J rfl rfl (z3E (i:=q) (j:=q+1) rfl rfl rfl (by omega) (by omega) (z0M ?_))
  refine z2J rfl rfl (z2B rfl (z0M ?_))
  refine z2J rfl rfl (z1B rfl (z0M ?_))
  refine vy_b rfl rfl rfl (Nat.le_refl _) (z0P (v:=.int .i64 1) rfl rfl hg1 rfl (by simp) (z2U ?_))
  rw [List.set_set]
  have k1:=z0C (y:=RE s q (q+1) 1 sym bad) hg
  show VY _ _ _ _ _ _ _ _ _ (H.set rid (RE s q (q+1) 1 sym bad))
  have k1l:(H.set rid (RE s q (q+1) 1 sym bad)).length=H.length:=List.length_set
  refine z2J rfl rfl (z2B rfl (z0M ?_))
  refine z2J rfl rfl (z1B rfl (z0M ?_))
  refine vy_b rfl rfl rfl (by omega) (z0P (v:=.str ((s.take (q+1)).drop q)) rfl rfl k1 rfl (by simp) (z2U ?_))
  rw [List.set_set]
  have k2:=z0C (y:=RE s q (q+1) 1 ((s.take (q+1)).drop q) bad) hg
  show VY _ _ _ _ _ _ _ _ _ (H.set rid (RE s q (q+1) 1 ((s.take (q+1)).drop q) bad))
  have k2l:(H.set rid (RE s q (q+1) 1 ((s.take (q+1)).drop q) bad)).length=H.length:=List.length_set
  rw [hsl]
  refine vy_done ?_
  refine z2D ?_
  exact fp_n rfl ⟨⟨_,rfl⟩,rfl⟩
 rw [hal] at htk
 simp only [Bool.false_eq_true,if_false] at htk
 have e60:((c.toNat:Int)==60)=(c==60):=z1T c 60
 refine z2D ?_
 rw [e60]
 cases h60:(c==60)
 rotate_left
 ·rw [h60,←hdc] at htk
  simp only [if_true] at htk
  rw [←hdc]
  refine z2D ?_
  refine z1H rfl (c247 hg1 (by omega) hs) ?_ ?_
  rotate_left
  ·rintro v H' ⟨⟨v',hv⟩,_⟩;cases hv
  rintro v H' ⟨_,rfl⟩
  rw [List.set_set]
  cases hang:angOk (s.drop q)
  ·rw [hang] at htk
   simp only [Bool.false_eq_true,if_false] at htk ⊢
   rw [htk]
   refine z2D ?_
   exact fp_n rfl ⟨⟨_,rfl⟩,rfl⟩
  ·rw [hang] at htk
   simp only [if_true] at htk ⊢
   rw [htk]
   obtain ⟨l1,l2,l3⟩:=ang_tok (by rw [hdc];simpa using h60) hang
   simp only [l1,l2,l3,beq_self_eq_true,if_true]
   rw [show ((s.drop q).take (angN (s.drop q))).drop 1=(s.take (q+angN (s.drop q))).drop (q+1) by rw [List.take_drop,List.drop_drop]]
   refine z2D ?_
   exact fp_n rfl ⟨⟨_,rfl⟩,rfl⟩
 rw [h60] at htk
 simp only [Bool.false_eq_true,if_false] at htk
 have e92:((c.toNat:Int)==92)=(c==92):=z1T c 92
 refine z2D ?_
 refine z1Y [(0,.ptr rid 0),(2,.int .u8 c.toNat),(3,.int .u8 f.toNat),(135,.bool (c==92&&isSig f && !isAl f))] (H.set rid (RE s q (q+1) kind sym bad)) ?_ ?_
 ·rw [e92]
  cases b1:(c==92)
  ·refine z2D ?_
   exact z0S rfl rfl
  ·refine z2D ?_
   refine z0G rfl (c248 f _) ?_
   refine z2D ?_
   cases b2:isSig f
   ·refine z2D ?_
    exact z0S rfl rfl
   ·refine z2D ?_
    refine z0G rfl (c220 f _) ?_
    refine z2D ?_
    exact z0S rfl rfl
 cases hbs:(c==92&&isSig f && !isAl f)
 rotate_left
 ·rw [hbs] at htk
  simp only [if_true] at htk
  rw [htk]
  simp only [Bool.and_eq_true,beq_iff_eq] at hbs
  have hfq:=hff hbs.1.2
  have hq2:=(List.getElem?_eq_some_iff.1 hfq).1
  have ht2:(c::s.drop (q+1)).take 2=[92,f]:=by
   obtain ⟨hl',hd'⟩:=List.getElem?_eq_some_iff.1 hfq
   rw [List.drop_eq_getElem_cons hl',hd',hbs.1.1];rfl
  rw [ht2]
  have hk:tkK (some [92,f])=1:=by simp [tkK]
  have hS:tkS [92,f]=[f]:=rfl
  simp only [hk,hS,beq_self_eq_true,if_true]
  have hsl:(s.take (q+1+1)).drop (q+1)=[f]:=by
   rw [z4P hfq (Nat.le_refl _),List.drop_eq_nil_of_le (by rw [List.length_take];omega)];rfl
  refine z2D ?_
  refine iw_drawY ?_
  refine z2J rfl rfl (z1W _ rfl (z0M ?_))
  refine z2J rfl rfl (z1W _ rfl (z0M ?_))
  refine z2J rfl rfl (z1W _ rfl (z0M ?_))
  refine z2J rfl rfl (z1W _ rfl (z0M ?_))
  refine z2J rfl rfl (z2B rfl (z0M ?_))
  refine z2J rfl rfl (z1B rfl (z0M ?_))
  refine vy_l rfl rfl (z1N (v:=.str s) rfl hg1 rfl (z0M ?_))
  refine z2J rfl rfl (z1W _ rfl (z0M ?_))
  refine z2J rfl rfl (z2B rfl (z0M ?_))
  refine z2J rfl rfl (z1B rfl (z0M ?_))
  refine vy_l rfl rfl (z1N (v:=.int .i64 (q+1:Nat)) rfl hg1 rfl (z0M ?_))
  refine z2J rfl rfl (z1W _ rfl (z0M ?_))
  refine z2J rfl rfl (z2B rfl (z0M ?_))
  refine z2J rfl rfl (z1B rfl (z0M ?_))
  refine vy_l rfl rfl (z1N (v:=.int .i64 (q+1:Nat)) rfl hg1 rfl (z0M ?_))
  refine z2J rfl rfl (z4W (a:=q+1) rfl (by omega) (z0M ?_))
  refine z2J rfl rfl (z3E (i:=q+1) (j:=q+1+1) rfl rfl rfl (by omega) (by omega) (z0M ?_))
  refine z2J rfl rfl (z1W _ rfl (z0M ?_))
  refine z2J rfl rfl (z2B rfl (z0M ?_))
  refine z2J rfl rfl (z1B rfl (z0M ?_))
  refine vy_l rfl rfl (z1N (v:=.int .i64 (q+1:Nat)) rfl hg1 rfl (z0M ?_))
  refine z2J rfl rfl (z4W (a:=q+1) rfl (by omega) (z0M ?_))
  refine z2J rfl rfl (z2B rfl (z0M ?_))
  refine z2J rfl rfl (z1B rfl (z0M ?_))
  refine vy_b rfl rfl rfl (Nat.le_refl _) (z0P (v:=.int .i64 1) rfl rfl hg1 rfl (by simp) (z2U ?_))
  rw [List.set_set]
  have k1:=z0C (y:=RE s q (q+1) 1 sym bad) hg
  show VY _ _ _ _ _ _ _ _ _ (H.set rid (RE s q (q+1) 1 sym bad))
  have k1l:(H.set rid (RE s q (q+1) 1 sym bad)).length=H.length:=List.length_set
  refine z2J rfl rfl (z2B rfl (z0M ?_))
  refine z2J rfl rfl (z1B rfl (z0M ?_))
  refine vy_b rfl rfl rfl (by omega) (z0P (v:=.str ((s.take (q+1+1)).drop (q+1))) rfl rfl k1 rfl (by simp) (z2U ?_))
  rw [List.set_set]
  have k2:=z0C (y:=RE s q (q+1) 1 ((s.take (q+1+1)).drop (q+1)) bad) hg
  show VY _ _ _ _ _ _ _ _ _ (H.set rid (RE s q (q+1) 1 ((s.take (q+1+1)).drop (q+1)) bad))
  have k2l:(H.set rid (RE s q (q+1) 1 ((s.take (q+1+1)).drop (q+1)) bad)).length=H.length:=List.length_set
  refine z2J rfl rfl (z2B rfl (z0M ?_))
  refine z2J rfl rfl (z1B rfl (z0M ?_))
  refine vy_b rfl rfl rfl (by omega) (z0P (v:=.int .i64 (q+1+1:Nat)) rfl rfl k2 rfl (by simp) (z2U ?_))
  rw [List.set_set]
  have k3:=z0C (y:=RE s q (q+1+1) 1 ((s.take (q+1+1)).drop (q+1)) bad) hg
  show VY _ _ _ _ _ _ _ _ _ (H.set rid (RE s q (q+1+1) 1 ((s.take (q+1+1)).drop (q+1)) bad))
  have k3l:(H.set rid (RE s q (q+1+1) 1 ((s.take (q+1+1)).drop (q+1)) bad)).length=H.length:=List.length_set
  rw [hsl]
  refine vy_done ?_
  refine z2D ?_
  exact fp_n rfl ⟨⟨_,rfl⟩,rfl⟩
 rw [hbs] at htk
 simp only [Bool.false_eq_true,if_false] at htk
 have e61:((c.toNat:Int)==61)=(c==61):=z1T c 61
 have f62:((f.toNat:Int)==62)=(f==62):=z1T f 62
 refine z2D ?_
 refine z1Y [(0,.ptr rid 0),(2,.int .u8 c.toNat),(3,.int .u8 f.toNat),(175,.bool (c==61&&f==62))] (H.set rid (RE s q (q+1) kind sym bad)) ?_ ?_
 ·rw [e61]
  cases b1:(c==61)
  ·refine z2D ?_
   exact z0S rfl rfl
  ·refine z2D ?_
   rw [f62]
   refine z2D ?_
   exact z0S rfl rfl
 cases h61:(c==61&&f==62)
 rotate_left
 ·rw [h61] at htk
  simp only [if_true] at htk
  rw [htk]
  refine z2D ?_
  refine z0P (v:=.int .i64 2) rfl rfl hg1 rfl (by simp) ?_
  show VV _ _ _ ((H.set rid (RE s q (q+1) kind sym bad)).set rid (RE s q (q+1) 2 sym bad)) _ _
  rw [List.set_set]
  have k1:=z0C (y:=RE s q (q+1) 2 sym bad) hg
  refine z2D ?_
  refine z0P (v:=.int .i64 (q+1+1:Nat)) rfl rfl k1 rfl (by simp) ?_
  show VV _ _ _ ((H.set rid (RE s q (q+1) 2 sym bad)).set rid (RE s q (q+1+1) 2 sym bad)) _ _
  rw [List.set_set]
  refine z2D ?_
  exact fp_n rfl ⟨⟨_,rfl⟩,rfl⟩
 rw [h61] at htk
 simp only [Bool.false_eq_true,if_false] at htk
 have e91:((c.toNat:Int)==91)=(c==91):=z1T c 91
 have f93:((f.toNat:Int)==93)=(f==93):=z1T f 93
 refine z2D ?_
 refine z1Y [(0,.ptr rid 0),(2,.int .u8 c.toNat),(193,.bool (c==91&&f==93))] (H.set rid (RE s q (q+1) kind sym bad)) ?_ ?_
 ·rw [e91]
  cases b1:(c==91)
  ·refine z2D ?_
   exact z0S rfl rfl
  ·refine z2D ?_
   rw [f93]
   refine z2D ?_
   exact z0S rfl rfl
 cases h91:(c==91&&f==93)
 rotate_left
 ·rw [h91] at htk
  simp only [if_true] at htk
  rw [htk]
  refine z2D ?_
  refine z0P (v:=.int .i64 3) rfl rfl hg1 rfl (by simp) ?_
  show VV _ _ _ ((H.set rid (RE s q (q+1) kind sym bad)).set rid (RE s q (q+1) 3 sym bad)) _ _
  rw [List.set_set]
  have k1:=z0C (y:=RE s q (q+1) 3 sym bad) hg
  refine z2D ?_
  refine z0P (v:=.int .i64 (q+1+1:Nat)) rfl rfl k1 rfl (by simp) ?_
  show VV _ _ _ ((H.set rid (RE s q (q+1) 3 sym bad)).set rid (RE s q (q+1+1) 3 sym bad)) _ _
  rw [List.set_set]
  refine z2D ?_
  exact fp_n rfl ⟨⟨_,rfl⟩,rfl⟩
 rw [h91] at htk
 simp only [Bool.false_eq_true,if_false] at htk
 cases hsg:sg15.contains c
 ·rw [hsg] at htk
  simp only [Bool.false_eq_true,if_false] at htk
  rw [htk]
  have hno:∀ d∈sg15,((c.toNat:Int)==(d.toNat:Int))=false:=fun d hd=>by
   have h0:(c==d)=false:=by
    refine Classical.byContradiction fun h=>?_
    have:c=d:=by simpa using h
    subst this
    rw [List.contains_iff_mem.2 hd] at hsg;cases hsg
   rw [←h0];exact z1T c d
  have n45:((c.toNat:Int)==45)=false:=hno 45 (by decide)
  have n124:((c.toNat:Int)==124)=false:=hno 124 (by decide)
  have n38:((c.toNat:Int)==38)=false:=hno 38 (by decide)
  have n37:((c.toNat:Int)==37)=false:=hno 37 (by decide)
  have n47:((c.toNat:Int)==47)=false:=hno 47 (by decide)
  have n126:((c.toNat:Int)==126)=false:=hno 126 (by decide)
  have n36:((c.toNat:Int)==36)=false:=hno 36 (by decide)
  have n42:((c.toNat:Int)==42)=false:=hno 42 (by decide)
  have n43:((c.toNat:Int)==43)=false:=hno 43 (by decide)
  have n63:((c.toNat:Int)==63)=false:=hno 63 (by decide)
  have n46:((c.toNat:Int)==46)=false:=hno 46 (by decide)
  have n33:((c.toNat:Int)==33)=false:=hno 33 (by decide)
  have n91:((c.toNat:Int)==91)=false:=hno 91 (by decide)
  have n93:((c.toNat:Int)==93)=false:=hno 93 (by decide)
  have n95:((c.toNat:Int)==95)=false:=hno 95 (by decide)
  refine z2D ?_
  refine z0P (v:=.int .i64 4) rfl rfl hg1 rfl (by simp) ?_
  show VV _ _ _ ((H.set rid (RE s q (q+1) kind sym bad)).set rid (RE s q (q+1) 4 sym bad)) _ _
  rw [List.set_set]
  refine z2D ?_
  exact fp_n rfl ⟨⟨_,rfl⟩,rfl⟩
 ·rw [hsg] at htk
  simp only [if_true] at htk
  rw [htk]
  have hm:c=95∨c=45∨c=124∨c=38∨c=37∨c=47∨c=126∨c=36∨c=42∨c=43∨c=63∨c=46∨c=33∨c=91∨c=93:=by simpa [sg15] using hsg
  clear hsg htk hbs hal h60 e60 e92 e61 e91 f62 f93 h61 h91 hff hhd
  clear hci hdr hdc
  rcases hm with rfl | rfl | rfl | rfl | rfl | rfl | rfl | rfl | rfl | rfl | rfl | rfl | rfl | rfl | rfl
  all_goals
   refine z2D ?_
   refine z2V rfl ?_
   refine z2D ?_
   refine z0P rfl rfl hg1 rfl (by simp) ?_
   rw [List.set_set]
   refine z2D ?_
   exact fp_n rfl ⟨⟨_,rfl⟩,rfl⟩
end Go.Ab
