/- Part 47 of the proof. -/
import Derived.Test.YtagcckioikbanaaGreatDoorM31
import Derived.Test.YtagcckioikbanaaGreatDoorM33
import Derived.Test.YtagcckioikbanaaGreatDoorM37
import Derived.Test.YtagcckioikbanaaGreatDoorM44
import Derived.Test.YtagcckioikbanaaGreatDoorM46
set_option linter.unusedVariables false
set_option linter.unusedSimpArgs false
namespace Go.Ab
open Go
set_option maxRecDepth 100000
set_option maxHeartbeats 4000000
theorem zNz (l:List Bt):zKd l=zSh l:=by
 unfold zKd zSh
 by_cases h:(decide ((l.length:Int)>40)||l.any z1Y)=true
 ·rw [if_pos h,if_pos h]
 rw [if_neg h,if_neg h]
 simp only [lBX,not_or,lCB] at h
 obtain ⟨_,hl⟩:=h
 have hs:∀ s∈l,z2X s=z4Q s:=fun s hs=>by
  have h1:z1Y s=false:=by
   rw [lBV] at hl
   simpa using hl s hs
  unfold z1Y at h1
  unfold z2X z4Q
  congr 1
  rw [lAC] at h1
  cases s with
  | nil=>rfl
  | cons a s=>simp at h1 ⊢;omega
 have hget:∀ i,i<l.length→z2X (l.getD i [])=z4Q (l.getD i []):=fun i hi=>by
  rw [lAB,lAG hi]
  exact hs _ (lBT hi)
 have:(List.range l.length).any (z4A l)=((l.any fun s=>!z2X s) || !z8z l):=by
  rw [lB6]
  unfold z8z
  rw [Bool.not_not,lBX,lA3,lA3,lA3]
  constructor
  ·rintro ⟨i,hi,h⟩
   have hi':=lAZ.1 hi
   unfold z4A at h
   rw [lBX] at h
   rcases h with h | h
   ·left
    refine ⟨l.getD i [],?_,by rw [hget i hi'];exact h⟩
    rw [lAB,lAG hi']
    exact lBT hi'
   ·right
    exact ⟨i,hi,h⟩
  ·rintro (⟨s,hs1,h⟩ | ⟨i,hi,h⟩)
   ·obtain ⟨i,hi,rfl⟩:=lBR.1 hs1
    refine ⟨i,lAZ.2 hi,?_⟩
    unfold z4A
    have e:l.getD i []=l[i]:=by rw [lAB,lAG hi];rfl
    rw [←hget i hi,e,h]
    rfl
   ·refine ⟨i,hi,?_⟩
    unfold z4A
    rw [lBX]
    exact .inr h
 rw [this]
theorem zPs (r:Ru) (sg x y:List Bt):zDh r sg [x,y]=zKN r sg [x,y]:=by
 unfold zDh zKN
 rw [zNe,zNz]
 have h:(z7T r++[x,y].headD []).any (z6d sg)=(!((z7T r).all fun t=>decide (t∈sg))||(![x,y].isEmpty && !(([x,y].headD []).all fun t=>decide (t∈sg)))):=by
  have hn:∀ l:List Bt,l.any (z6d sg) = !(l.all fun t=>decide (t∈sg)):=fun l=>by
   rw [List.not_all_eq_any_not];rfl
  rw [lDK,hn,hn];rfl
 rw [h]
def Cor (f:Bt→UInt8) (S:List Bt) (g:Bt→Bool) (g':List Bt→Bool):Prop:=∀ w:List Bt,(∀ t∈w,t∈S)→g (w.map f)=g' w
theorem zFp (f:Bt→UInt8) (w:List Bt) (i k:Nat):sub (w.map f) i k=(sub w i k).map f:=by
 unfold sub
 rw [lDZ,lDY]
theorem zCd {S w:List Bt} (h:∀ t∈w,t∈S) (i k:Nat):∀ t∈sub w i k,t∈S:=fun t ht=>h t (lDG (lCF ht))
theorem z8H {S w:List Bt} (h:∀ t∈w,t∈S) (i:Nat):∀ t∈w.drop i,t∈S:=fun t ht=>h t (lDG ht)
theorem z9u {S w:List Bt} (h:∀ t∈w,t∈S) (i:Nat):∀ t∈w.take i,t∈S:=fun t ht=>h t (lCF ht)
section cor
variable {f:Bt→UInt8} {S w:List Bt} {g:Bt→Bool} {g':List Bt→Bool}
theorem zHV (hc:Cor f S g g') (hw:∀ t∈w,t∈S) (is:Bool) (lo i:Nat) (l:List Bool):zCs g (w.map f) is lo i l=zCs g' w is lo i l:=by
 unfold zCs
 congr 1
 funext k b
 rw [zFp,hc _ (zCd hw i k)]
theorem zEq (hc:Cor f S g g') (hw:∀ t∈w,t∈S) (ends:List Bool):∀ i,z4N g (w.map f) ends i=z4N g' w ends i
 | 0=>by simp only [z4N,lAE]
 | i+1=>by simp only [z4N,zEq hc hw ends i,zHV hc hw]
theorem zCM {β:Type} {F:β→Bt→Bool} {F':β→List Bt→Bool} (hw:∀ t∈w,t∈S):∀ (l:List β) (ends:List Bool),(∀ x∈l,Cor f S (F x) (F' x))→z2e (l.map F) (w.map f) ends=z2e (l.map F') w ends
 | [],_,_=>rfl
 | x::l,ends,h=>by
  simp only [lA6,z2e]
  have:zGQ (F x) (w.map f) ends=zGQ (F' x) w ends:=by
   unfold zGQ
   rw [lAE,zEq (h x (lB2 ..)) hw]
  rw [this]
  exact zCM hw l _ fun y hy=>h y (lA8 _ hy)
theorem zDv (hc:Cor f S g g') (hw:∀ t∈w,t∈S):∀ i,z3Q g (w.map f) i=z3Q g' w i
 | 0=>by simp only [z3Q,lAE]
 | i+1=>by simp only [z3Q,zDv hc hw i,zHV hc hw]
theorem zKz (hc:Cor f S g g'):Cor f S (z4K g) (z4K g'):=fun w hw=>by
 unfold z4K
 rw [lAE,zDv hc hw]
theorem zAu (hc:Cor f S g g'):Cor f S (z2u g) (z2u g'):=fun w hw=>by
 unfold z2u
 rw [lAE]
 congr 1
 funext i
 rw [←lDY,hc _ (z8H hw i)]
theorem z5Q (hc:Cor f S g g'):Cor f S (z0g g) (z0g g'):=fun w hw=>by
 unfold z0g
 rw [lAE]
 congr 1
 funext i
 rw [←lDZ,hc _ (z9u hw i)]
theorem zPg (hc:Cor f S g g'):Cor f S (zNX g) (zNX g'):=fun w hw=>by
 unfold zNX
 rw [lAE]
 congr 1
 funext i
 rw [←lDY,z5Q hc _ (z8H hw i)]
theorem zLu {h k:Bt→Bool} {h' k':List Bt→Bool} (hc:Cor f S g g') (h2:Cor f S h h') (h3:Cor f S k k'):Cor f S (zEf g h k) (zEf g' h' k'):=fun w hw=>by
 unfold zEf
 rw [lAE]
 congr 1
 funext i
 congr 1
 funext j
 rw [zFp,hc _ (zCd hw i j),←lDZ,←lDY,zAu h2 _ (z9u hw i),z5Q h3 _ (z8H hw j)]
theorem zDK {β:Type} {F:β→Bt→Bool} {F':β→List Bt→Bool} {l:List β} (h:∀ x∈l,Cor f S (F x) (F' x)) (i:Nat):Cor f S ((l.map F).getD i fun _=>false) ((l.map F').getD i fun _=>false):=by
 rw [lAB,lAB,lAM,lAM]
 cases hx:l[i]? with
 | none=>exact fun _ _=>rfl
 | some x=>exact h x (lAF hx)
theorem zMq {β:Type} {F:β→Bt→Bool} {F':β→List Bt→Bool} {l:List β} {op:Int} {s:Bt} {s':List Bt} (h:∀ x∈l,Cor f S (F x) (F' x)) (hs:op=0→Cor f S (fun w=>w==s) (fun w=>w==s')):Cor f S (z2C op s (l.map F)) (z2C op s' (l.map F')):=fun w hw=>by
 have a0:=zDK h 0
 have a1:=zDK h 1
 have a2:=zDK h 2
 unfold z2C
 simp only
 by_cases o0:op=0
 ·rw [if_pos o0,if_pos o0];exact hs o0 w hw
 rw [if_neg o0,if_neg o0]
 have hl:(w.map f).length=w.length:=lAE _
 have he:(w.map f).isEmpty=w.isEmpty:=by cases w<;>rfl
 have hch:zAz (l.map F) (w.map f)=zAz (l.map F') w:=by
  unfold zAz
  rw [hl,zCM hw l _ h]
 have hany:((l.map F).any fun f_1=>f_1 (w.map f))=(l.map F').any fun f=>f w:=by
  rw [List.any_map,List.any_map,lB6,lA3,lA3]
  constructor
  ·rintro ⟨x,hx,hh⟩
   exact ⟨x,hx,by simpa [h x hx w hw] using hh⟩
  ·rintro ⟨x,hx,hh⟩
   exact ⟨x,hx,by simpa [h x hx w hw] using hh⟩
 have hall:((l.map F).all fun f_1=>f_1 (w.map f))=(l.map F').all fun f=>f w:=by
  rw [List.all_map,List.all_map,lB6,lAX,lAX]
  constructor
  ·intro hh x hx
   have:=hh x hx
   simpa [h x hx w hw] using this
  ·intro hh x hx
   have:=hh x hx
   simpa [h x hx w hw] using this
 rw [hl,he,hch,hany,hall,a0 w hw,a1 w hw,zKz a0 w hw,zPg a0 w hw,zLu a0 a1 a2 w hw]
end cor
theorem zTN {sg:List Bt} (hn:sg.length≤256) {s t:Bt} (hs:s∈sg) (ht:t∈sg) (h:mu sg s=mu sg t):s=t:=by
 unfold mu at h
 have h1:=List.idxOf_lt_length_of_mem hs
 have h2:=List.idxOf_lt_length_of_mem ht
 have h3:=congrArg UInt8.toNat h
 rw [UInt8.toNat_ofNat',UInt8.toNat_ofNat',Nat.mod_eq_of_lt (by omega),Nat.mod_eq_of_lt (by omega)] at h3
 have e1:=List.getElem_idxOf h1
 have e2:=List.getElem_idxOf h2
 rw [←e1,←e2]
 congr 1
theorem zCA {sg:List Bt} (hn:sg.length≤256):∀ {v w:List Bt},(∀ t∈v,t∈sg)→(∀ t∈w,t∈sg)→v.map (mu sg)=w.map (mu sg)→v=w
 | [],[],_,_,_=>rfl
 | [],_::_,_,_,h=>by cases h
 | _::_,[],_,_,h=>by cases h
 | a::v,b::w,hv,hw,h=>by
  simp only [lA6,List.cons.injEq] at h
  rw [zTN hn (hv a (lB2 ..)) (hw b (lB2 ..)) h.1,zCA hn (fun t ht=>hv t (lA8 _ ht)) (fun t ht=>hw t (lA8 _ ht)) h.2]
theorem zQn {sg:List Bt} (hn:sg.length≤256) {v w:List Bt} (hv:∀ t∈v,t∈sg) (hw:∀ t∈w,t∈sg):(v.map (mu sg)==w.map (mu sg))=(v==w):=by
 rw [lB6,lCY,lCY]
 exact ⟨zCA hn hv hw,fun e=>by rw [e]⟩
mutual
theorem z8J {sg:List Bt} (hn:sg.length≤256):∀ e:Ex,(∀ t∈z1V e,t∈sg)→Cor (mu sg) sg (z5c (syW sg) e) (z5c zBK e)
 | .mk op s nl l,h=>by
  have hl:=zFZ hn l (fun t ht=>h t (by simp only [z1V];exact lCQ _ ht))
  intro w hw
  simp only [z5c,zAx]
  refine zMq hl (fun h0=>?_) w hw
  intro v hv
  have hs:s∈sg:=h s (by simp [z1V,h0])
  rw [if_pos h0,if_pos h0]
  exact zQn hn hv (w:=[s]) (fun t ht=>by rw [lA1.1 ht];exact hs)
theorem zFZ {sg:List Bt} (hn:sg.length≤256):∀ l:List Ex,(∀ t∈z3G l,t∈sg)→∀ x∈l,Cor (mu sg) sg (z5c (syW sg) x) (z5c zBK x)
 | [],_,x,hx=>by cases hx
 | y::l,h,x,hx=>by
  rcases lAT.1 hx with e | hx
  ·rw [e]
   exact z8J hn y (fun t ht=>h t (by simp only [z3G];exact lCV _ ht))
  ·exact zFZ hn l (fun t ht=>h t (by simp only [z3G];exact lCQ _ ht)) x hx
end
structure OverR (sg:List Bt) (r:Ru):Prop where
 n:sg.length≤256
 pa:∀ p∈r.pairs,(∀ t∈p.a.l,t∈sg)∧∀ t∈p.b.l,t∈sg
 pl:∀ p∈r.places,(∀ t∈z1V p.1,t∈sg)∧∀ t∈z1V p.2,t∈sg
section
variable {sg:List Bt} {r:Ru}
def prD:Pr:=⟨⟨true,[]⟩,⟨true,[]⟩⟩
theorem zTB (n:Nat):(r.pairs.map (z3u sg)).getD n ([],[])=z3u sg (r.pairs.getD n prD):=by
 rw [lAB,lAB,lAM]
 cases r.pairs[n]?<;>rfl
theorem zLf:zDf (r.pairs.map (z3u sg))=zFM r:=by
 funext n
 unfold zDf zFM
 rw [zTB]
 unfold z3u
 rw [lAE];rfl
theorem zMT (ho:OverR sg r) (n:Nat):∀ t∈(r.pairs.getD n prD).a.l,t∈sg:=fun t ht=>by
 rw [lAB] at ht
 cases hp:r.pairs[n]? with
 | none=>rw [hp] at ht;cases ht
 | some p=>rw [hp] at ht;exact (ho.pa p (lAF hp)).1 t ht
theorem zMb (ho:OverR sg r) {x w:List Bt} (hx:∀ t∈x,t∈sg) (hw:∀ t∈w,t∈sg) (p:Nat):zSk (w.map (mu sg)) ((x.map (mu sg)).drop p)=zFR x p w:=by
 unfold zSk zFR
 have h:((x.map (mu sg)).drop p).take (w.map (mu sg)).length=(sub x p (p+w.length)).map (mu sg):=by
  rw [lAE,←zFp]
  unfold sub
  rw [lC4]
 rw [h,zQn ho.n (zCd hx _ _) hw,lAE,lC3,lAE]
theorem zPa (ho:OverR sg r) {a x:List Bt} (ha:∀ t∈a,t∈sg) (hx:∀ t∈x,t∈sg) :
  ((zEe (z8F sg (z0d r)) (a.map (mu sg))).any fun i=>((z3A sg (z0d r)).getD i fun _=>false) (x.map (mu sg)))=zQX r.places a x:=by
 have h1:((zEe (z8F sg (z0d r)) (a.map (mu sg))).any fun i=>((z3A sg (z0d r)).getD i fun _=>false) (x.map (mu sg)))=(z0d r).any fun p=>z2u (z5c (syW sg) p.1) (a.map (mu sg))&&z0g (z5c (syW sg) p.2) (x.map (mu sg)):=by
  generalize z0d r=L
  unfold zEe z8F z3A
  rw [lB6,lA3,lA3]
  constructor
  ·rintro ⟨i,hi,h⟩
   obtain ⟨hi,h2⟩:=lCC.1 hi
   have hl:=lAZ.1 hi
   rw [lAE] at hl
   refine ⟨L[i],lBT hl,?_⟩
   rw [lAB,lAM,lAG hl] at h h2
   rw [lAQ]
   exact ⟨h2,h⟩
  ·rintro ⟨p,hp,h⟩
   obtain ⟨i,hi,rfl⟩:=lBR.1 hp
   rw [lAQ] at h
   refine ⟨i,lCC.2 ⟨lAZ.2 (by rw [lAE];exact hi),?_⟩,?_⟩
   ·rw [lAB,lAM,lAG hi];exact h.1
   ·rw [lAB,lAM,lAG hi];exact h.2
 rw [h1]
 unfold zQX z0d
 cases he:r.places.isEmpty
 ·rw [lCL,if_neg (by simp)]
  rw [lB6,lA3,lA3]
  constructor
  ·rintro ⟨p,hp,h⟩
   refine ⟨p,hp,?_⟩
   rw [←zAu (z8J ho.n p.1 (ho.pl p hp).1) a ha,←z5Q (z8J ho.n p.2 (ho.pl p hp).2) x hx]
   exact h
  ·rintro ⟨p,hp,h⟩
   refine ⟨p,hp,?_⟩
   rw [zAu (z8J ho.n p.1 (ho.pl p hp).1) a ha,z5Q (z8J ho.n p.2 (ho.pl p hp).2) x hx]
   exact h
 ·rw [if_pos rfl,lD5]
  have hd:∀ w:Bt,z5c (syW sg) z5V w=w.isEmpty:=fun w=>rfl
  have e1:z2u (z5c (syW sg) z5V) (a.map (mu sg))=true:=by
   unfold z2u
   rw [lA3]
   exact ⟨(a.map (mu sg)).length,lAZ.2 (Nat.lt_succ_self _),by rw [hd,lDQ];rfl⟩
  have e2:z0g (z5c (syW sg) z5V) (x.map (mu sg))=true:=by
   unfold z0g
   rw [lA3]
   exact ⟨0,lAZ.2 (Nat.succ_pos _),by rw [hd,List.take_zero];rfl⟩
  simp only [List.any_cons,List.any_nil,e1,e2,Bool.and_self,Bool.or_false]
theorem zSe (ho:OverR sg r) {x a:List Bt} (hx:∀ t∈x,t∈sg) (ha:∀ t∈a,t∈sg) (p:Nat) :
  atP (r.pairs.map (z3u sg)) (z8F sg (z0d r)) (z3A sg (z0d r)) (a.map (mu sg)) ((x.map (mu sg)).drop p)=atR r x p a:=by
 unfold atP atR
 rw [lAE]
 congr 1
 funext n
 unfold zMQ zXA
 have hf:((r.pairs.map (z3u sg)).getD n ([],[])).1=(r.pairs.getD n prD).a.l.map (mu sg):=by rw [zTB];rfl
 rw [hf,zMb ho hx (zMT ho n),lAE,List.drop_drop,←lDY,zPa ho ha (z8H hx _)]
 rfl
def zYB (len:Nat→Nat) (p:Nat) (l:List Nat):List (Nat × Nat):=l.map fun n=>(n,p+len n)
theorem zLY (ho:OverR sg r) {x:List Bt} (hx:∀ t∈x,t∈sg) {p:Nat} (hp:p<x.length) :
  (z4M (r.pairs.map (z3u sg)) (z8F sg (z0d r)) (z3A sg (z0d r)) (x.map (mu sg))).getD p []=zYB (zFM r) p (z3s r x p):=by
 unfold z4M
 rw [lAB,lAM,lAE,lCM hp]
 simp only [lBH,lB1]
 unfold z8M z3s zYB
 rw [←lDZ,zSe ho hx (z9u hx p)]
 have:(fun n=>(n,p+((r.pairs.map (z3u sg)).getD n ([],[])).1.length))=fun n=>(n,p+zFM r n):=by
  rw [←zLf (sg:=sg)];rfl
 rw [this]
end
theorem zMV {op:Int} {s:Bt} {n:Nat} (h:z2t (z5X op) op s n=false) (hm:z6n op=false):Form op n:=by
 unfold z2t at h
 unfold z6n at hm
 simp only [lCJ,lAC,beq_eq_false_iff_ne] at h hm
 have h1:¬ (n:Int)<(z5X op).1:=h.1.1.2
 refine ⟨fun ho=>?_,fun ho=>?_,fun ho=>?_,hm.2,hm.1⟩
 ·have e:(z5X op).1=1:=by rcases ho with rfl | rfl | rfl | rfl | rfl<;>rfl
  rw [e] at h1;omega
 ·subst ho
  have e:(z5X 7).1=2:=rfl
  rw [e] at h1;omega
 ·subst ho
  have e:(z5X 14).1=3:=rfl
  rw [e] at h1;omega
theorem zHW {op:Int} {s:Bt} {nl:Bool} {l:List Ex} (h:(Ex.mk op s nl l).right=true):z2t (z5X op) op s l.length=false∧z5p l=true:=by
 simp only [Ex.right,lAQ,lC5] at h
 exact ⟨h.1.1,h.2⟩
theorem zQU {op:Int} {s:Bt} {nl:Bool} {l:List Ex} (h:(Ex.mk op s nl l).odd=false):z6n op=false∧zPQ l=false:=by
 simp only [Ex.odd,lCJ] at h
 exact h
mutual
theorem z9w:∀ e:Ex,e.right=true→e.odd=false→∀ x∈z3P e,Form x.opR x.kids.length∧x.kids.length≤e.size
 | .mk op s nl l,hr,ho,x,hx=>by
  obtain ⟨h1,h2⟩:=zHW hr
  obtain ⟨h3,h4⟩:=zQU ho
  simp only [z3P] at hx
  have hl:=z1H l
  rcases lAT.1 hx with e | hx
  ·rw [e]
   exact ⟨zMV h1 h3,by simp only [Ex.kids,Ex.size];omega⟩
  ·obtain ⟨a,b⟩:=zBW l h2 h4 x hx
   exact ⟨a,by simp only [Ex.size];omega⟩
theorem zBW:∀ l:List Ex,z5p l=true→zPQ l=false→∀ x∈z5D l,Form x.opR x.kids.length∧x.kids.length≤z0V l
 | [],_,_,x,hx=>by cases hx
 | e::l,hr,ho,x,hx=>by
  simp only [z5p,lAQ] at hr
  simp only [zPQ,lCJ] at ho
  simp only [z5D] at hx
  rcases lBF.1 hx with hx | hx
  ·obtain ⟨a,b⟩:=z9w e hr.1 ho.1 x hx
   exact ⟨a,by simp only [z0V];omega⟩
  ·obtain ⟨a,b⟩:=zBW l hr.2 ho.2 x hx
   exact ⟨a,by simp only [z0V];omega⟩
end
theorem zEn (sy:Bt→Bt):∀ (l:List Ex) (n:Nat),(z5b sy n l).length=l.length
 | [],n=>rfl
 | x::l,n=>by simp only [z5b,lBE,zEn sy l]
mutual
theorem zMZ (sy:Bt→Bt):∀ (e:Ex) (n:Nat),e.right=true→e.odd=false→e.size≤1000→∀ m∈flN (z7s sy n e),m.form
 | .mk op s nl l,n,hr,ho,hs,m,hm=>by
  obtain ⟨h1,h2⟩:=zHW hr
  obtain ⟨h3,h4⟩:=zQU ho
  have hl:=z1H l
  simp only [Ex.size] at hs
  simp only [z7s,flN] at hm
  rcases lAT.1 hm with e | hm
  ·rw [e]
   simp only [Nd.form,zEn]
   exact ⟨zMV h1 h3,by omega⟩
  ·exact zHy sy l (n+1) h2 h4 (by omega) m hm
theorem zHy (sy:Bt→Bt):∀ (l:List Ex) (n:Nat),z5p l=true→zPQ l=false→z0V l≤1000→∀ m∈z9K (z5b sy n l),m.form
 | [],n,_,_,_,m,hm=>by simp [z5b,z9K] at hm
 | e::l,n,hr,ho,hs,m,hm=>by
  simp only [z5p,lAQ] at hr
  simp only [zPQ,lCJ] at ho
  simp only [z0V] at hs
  simp only [z5b,z9K] at hm
  rcases lBF.1 hm with hm | hm
  ·exact zMZ sy e n hr.1 ho.1 (by omega) m hm
  ·exact zHy sy l (n+e.size) hr.2 ho.2 (by omega) m hm
end
theorem zFQ (sy:Bt→Bt):∀ (l:List Ex) (n:Nat),(∀ e∈l,e.right=true∧e.odd=false∧e.size≤1000)→∀ m∈z9K (z5b sy n l),m.form
 | [],n,_,m,hm=>by simp [z5b,z9K] at hm
 | e::l,n,h,m,hm=>by
  simp only [z5b,z9K] at hm
  obtain ⟨h1,h2,h3⟩:=h e (lB2 ..)
  rcases lBF.1 hm with hm | hm
  ·exact zMZ sy e n h1 h2 h3 m hm
  ·exact zFQ sy l (n+e.size) (fun x hx=>h x (lA8 _ hx)) m hm
theorem zBq:∀ l:List Pl,(∀ p∈l,p.1.size≤40∧p.2.size≤40)→z0V (z2Y l)≤80*l.length
 | [],_=>lAL _
 | p::l,h=>by
  have h1:=h p (lB2 ..)
  have h2:=zBq l fun q hq=>h q (lA8 _ hq)
  have e:z2Y (p::l)=p.1::p.2::z2Y l:=rfl
  rw [e]
  simp only [z0V,lBE]
  omega
theorem z6G {w:List Bt} (h:z1N w=0):GW w∧w.length≤60:=by
 unfold z1N at h
 split at h
 ·exact absurd h (by decide)
 ·rename_i h1
  split at h
  ·exact absurd h (by decide)
  ·rename_i h2
   simp only [lBX,not_or,lAD,lCB] at h1
   obtain ⟨h1,h3⟩:=h1
   simp only [lCB] at h2
   refine ⟨fun t ht=>?_,by omega⟩
   rw [lBV] at h2 h3
   have a:z4Q t=true:=by simpa using h2 t ht
   have b:=h3 t ht
   unfold z1Y at b
   unfold z4Q at a
   simp only [lAQ,lC5,beq_eq_false_iff_ne] at a
   rw [lAD] at b
   refine ⟨a.2,fun hm=>?_,by omega⟩
   have h5:=a.1
   rw [lBV] at h5
   exact h5 32 hm (by decide)
theorem zEa:∀ {l:List Pr},zCy l=0→∀ p∈l,z1N p.a.l=0∧z1N p.b.l=0
 | [],_,p,hp=>by cases hp
 | q::l,h,p,hp=>by
  unfold zCy at h
  split at h
  ·rename_i h1
   rw [h] at h1;cases h1
  ·rename_i h1
   split at h
   ·rename_i h2
    rw [h] at h2;cases h2
   ·rename_i h2
    rcases lAT.1 hp with e | hp
    ·rw [e];exact ⟨by simpa using h1,by simpa using h2⟩
    ·exact zEa h p hp
theorem zEz {v:Ex→Int}:∀ {l:List Pl},zDg v l=0→∀ p∈l,v p.1=0∧v p.2=0
 | [],_,p,hp=>by cases hp
 | q::l,h,p,hp=>by
  unfold zDg at h
  split at h
  ·rename_i h1
   rw [h] at h1;cases h1
  ·rename_i h1
   split at h
   ·rename_i h2
    rw [h] at h2;cases h2
   ·rename_i h2
    rcases lAT.1 hp with e | hp
    ·rw [e];exact ⟨by simpa using h1,by simpa using h2⟩
    ·exact zEz h p hp
theorem z6H {e:Ex} (h:z5U e=0):e.size≤40∧e.right=true:=by
 unfold z5U at h
 split at h
 ·exact absurd h (by decide)
 ·rename_i h1
  split at h
  ·exact absurd h (by decide)
  ·rename_i h2
   simp only [lBX,not_or,lAD] at h1
   exact ⟨by omega,by simpa using h2⟩
structure RuGood (r:Ru):Prop where
 np:r.pairs.length≤24
 nl:r.places.length≤24
 ne:r.pairs≠[]
 pa:∀ p∈r.pairs,p.a.l.length≤6∧p.b.l.length≤60∧GW p.a.l∧GW p.b.l
 ex:∀ p∈r.places,(p.1.size≤40∧p.1.right=true∧p.1.odd=false)∧p.2.size≤40∧p.2.right=true∧p.2.odd=false
 kd:r.kind=0∨r.kind=1∨r.kind=2∨r.kind=3
 be:r.below=true→r.kind=2∨r.kind=3
theorem zJR {r:Ru} (h:z8Q r=0):RuGood r:=by
 unfold z8Q at h
 split at h
 ·exact absurd h (by decide)
 rename_i h1
 split at h
 ·exact absurd h (by decide)
 rename_i h2
 split at h
 ·rename_i h3
  rw [h] at h3;cases h3
 rename_i h3
 split at h
 ·rename_i h4
  rw [h] at h4;cases h4
 rename_i h4
 split at h
 ·exact absurd h (by decide)
 rename_i h5
 split at h
 ·exact absurd h (by decide)
 rename_i h6
 simp only [lBX,not_or,lAD] at h1
 have h3:zCy r.pairs=0:=by simpa using h3
 have h4:zDg z5U r.places=0:=by simpa using h4
 simp only [lCB] at h2 h5 h6
 rw [lBV] at h2 h6
 unfold zBP at h5
 simp only [lCJ,lAC,Bool.and_eq_false_iff,beq_eq_false_iff_ne] at h5
 obtain ⟨⟨⟨⟨k1,k2⟩,k3⟩,k4⟩,_⟩:=h5
 refine ⟨by omega,by omega,fun e=>by rw [e] at k3;exact k3 rfl,fun p hp=>?_,fun p hp=>?_,by omega,fun hb=>?_⟩
 ·have a:=h2 p hp
  unfold z5t at a
  simp only [lBX,not_or,lAD] at a
  obtain ⟨b,c⟩:=zEa h3 p hp
  exact ⟨by omega,by omega,(z6G b).1,(z6G c).1⟩
 ·obtain ⟨a,b⟩:=zEz h4 p hp
  have c:=h6 p hp
  unfold z7D at c
  simp only [lCB,lCJ] at c
  exact ⟨⟨(z6H a).1,(z6H a).2,c.1⟩,(z6H b).1,(z6H b).2,c.2⟩
 ·rcases k4 with k4 | k4
  ·rw [hb] at k4;cases k4
  ·omega
theorem zPn {x y:List Bt} (h:z9L [x,y]=0):z1N x=0∧z1N y=0:=by
 unfold z9L at h
 split at h
 ·rename_i h1
  rw [h] at h1;cases h1
 ·rename_i h1
  unfold z9L at h
  split at h
  ·rename_i h2
   rw [h] at h2;cases h2
  ·rename_i h2
   exact ⟨by simpa using h1,by simpa using h2⟩
theorem zJs:z5V.right=true:=by decide
theorem zNc {l:List Bt} (h:zKd l=0):l.length≤40:=by
 unfold zKd at h
 split at h
 ·exact absurd h (by decide)
 ·rename_i h1
  simp only [lBX,not_or,lAD] at h1
  omega
theorem zDW {r:Ru} {sg x y:List Bt} (hr:okR r) (h:zDh r sg [x,y]=0):RuGood r∧HoldOk sg r x y∧HoldOkR r x y∧OverR sg r:=by
 unfold zDh at h
 split at h
 ·rename_i h1
  rw [h] at h1;cases h1
 rename_i h1
 split at h
 ·rename_i h2
  rw [h] at h2;cases h2
 rename_i h2
 split at h
 ·rename_i h3
  rw [h] at h3;cases h3
 rename_i h3
 split at h
 ·exact absurd h (by decide)
 rename_i h4
 have h1:z8Q r=0:=by simpa using h1
 have h2:zKd sg=0:=by simpa using h2
 have h3:z9L [x,y]=0:=by simpa using h3
 simp only [lCB] at h4
 rw [lBV] at h4
 have hin:∀ t∈z7T r++x,t∈sg:=fun t ht=>by
  have:=h4 t ht
  unfold z6d at this
  simpa using this
 have g:=zJR h1
 obtain ⟨hx,hy⟩:=zPn h3
 obtain ⟨gx,lx⟩:=z6G hx
 obtain ⟨gy,ly⟩:=z6G hy
 have hsl:=zNc h2
 have hpa:∀ p∈r.pairs,(∀ t∈p.a.l,t∈sg)∧∀ t∈p.b.l,t∈sg:=fun p hp=>by
  have:∀ t∈p.a.l++p.b.l,t∈sg:=fun t ht=>hin t (lCV _ (lCV _ (lBW.2 ⟨p,hp,ht⟩)))
  exact ⟨fun t ht=>this t (lCV _ ht),fun t ht=>this t (lCQ _ ht)⟩
 have hpl:∀ p∈r.places,(∀ t∈z1V p.1,t∈sg)∧∀ t∈z1V p.2,t∈sg:=fun p hp=>by
  have:∀ t∈z1V p.1++z1V p.2,t∈sg:=fun t ht=>hin t (lCV _ (lCQ _ (lBW.2 ⟨p,hp,ht⟩)))
  exact ⟨fun t ht=>this t (lCV _ ht),fun t ht=>this t (lCQ _ ht)⟩
 have hP:∀ p∈z0d r,(p.1.size≤40∧p.1.right=true∧p.1.odd=false∧okE p.1∧∀ t∈z1V p.1,t∈sg)∧p.2.size≤40∧p.2.right=true∧p.2.odd=false∧okE p.2∧∀ t∈z1V p.2,t∈sg:=fun p hp=>by
  unfold z0d at hp
  split at hp
  ·rw [lA1] at hp
   subst hp
   have hn:z5V.size≤40∧z5V.right=true∧z5V.odd=false∧okE z5V∧∀ t∈z1V z5V,t∈sg:=⟨by decide,zJs,by decide,by unfold okE;decide,fun t ht=>by
    have:z1V z5V=[]:=rfl
    rw [this] at ht;cases ht⟩
   exact ⟨hn,hn⟩
  ·obtain ⟨⟨a1,a2,a3⟩,b1,b2,b3⟩:=g.ex p hp
   obtain ⟨o1,o2⟩:=hr.ls p hp
   obtain ⟨s1,s2⟩:=hpl p hp
   exact ⟨⟨a1,a2,a3,o1,s1⟩,b1,b2,b3,o2,s2⟩
 have hPl:(z0d r).length≤24:=by
  unfold z0d
  split
  ·simp
  ·exact g.nl
 have hasc:=zGz h2
 refine ⟨g,⟨⟨g.ne,by have:=g.np;omega,fun p hp=>?_,by have:=g.nl;omega,?_,fun p hp=>?_,?_⟩,g.kd,fun t ht=>hin t (lCQ _ ht),lx,ly,hasc,by omega⟩,⟨⟨fun p hp=>hr.ls p hp,fun p hp=>?_,by have:=g.nl;omega,by have:=g.np;omega,fun p hp=>?_⟩,gx,gy,lx,ly⟩,⟨by omega,hpa,hpl⟩⟩
 ·obtain ⟨a,b,_,_⟩:=g.pa p hp
  exact ⟨by omega,by omega,hpa p hp⟩
 ·have:=zBq (z0d r) fun p hp=>⟨(hP p hp).1.1,(hP p hp).2.1⟩
  omega
 ·obtain ⟨⟨_,_,_,o1,s1⟩,_,_,_,o2,s2⟩:=hP p hp
  exact ⟨o1,o2,s1,s2⟩
 ·refine zFQ (syW sg) _ 0 fun e he=>?_
  unfold z2Y at he
  obtain ⟨p,hp,he⟩:=lBW.1 he
  obtain ⟨⟨a1,a2,a3,_⟩,b1,b2,b3,_⟩:=hP p hp
  simp only [lAT,lA5,or_false] at he
  rcases he with rfl | rfl
  ·exact ⟨a2,a3,by omega⟩
  ·exact ⟨b2,b3,by omega⟩
 ·obtain ⟨⟨a1,a2,a3⟩,b1,b2,b3⟩:=g.ex p hp
  exact ⟨fun z hz=>by
   obtain ⟨c,d⟩:=z9w p.1 a2 a3 z hz
   exact ⟨c,by omega⟩,fun z hz=>by
   obtain ⟨c,d⟩:=z9w p.2 b2 b3 z hz
   exact ⟨c,by omega⟩,by omega,by omega⟩
 ·obtain ⟨a,b,_,_⟩:=g.pa p hp
  exact ⟨by omega,by omega⟩
theorem zTL:∀ (w:List Bt) (n:Nat),n≤nw n w
 | [],n=>lAL _
 | s::w,n=>by
  simp only [nw]
  split
  ·exact lBM (Nat.le_add_right _ _) (zTL w _)
  ·exact lAL _
theorem zLv (n:Nat) (w:List Bt):n+w.length≤nww n w:=zTL _ _
theorem zLy:∀ (l:List Pr) (n:Nat),nps n l≤24000→n+(z9W l).length≤nps n l∧∀ p∈l,p.a.l.length+p.b.l.length≤24000
 | [],n,_=>⟨lAL _,fun p hp=>by cases hp⟩
 | p::l,n,h=>by
  simp only [nps] at h ⊢
  have hn:n≤24000:=by
   split at h
   ·assumption
   ·exact h
  rw [if_pos hn] at h ⊢
  obtain ⟨h1,h2⟩:=zLy l _ h
  have h3:=zLv 0 p.a.l
  have h4:=zLv (nww 0 p.a.l) p.b.l
  have e:(z9W (p::l)).length=p.a.l.length+p.b.l.length+(z9W l).length:=by
   simp only [z9W,lBU,lAH]
  refine ⟨by omega,fun q hq=>?_⟩
  rcases lAT.1 hq with rfl | hq
  ·omega
  ·exact h2 q hq
theorem z9e:∀ (ws:List (List Bt)) (n:Nat),ws.foldl nww n≤24000→n≤24000∧∀ w∈ws,w.length≤24000
 | [],n,h=>⟨h,fun w hw=>by cases hw⟩
 | v::ws,n,h=>by
  simp only [List.foldl_cons] at h
  obtain ⟨h1,h2⟩:=z9e ws _ h
  have h3:=zLv n v
  refine ⟨by omega,fun w hw=>?_⟩
  rcases lAT.1 hw with rfl | hw
  ·omega
  ·exact h2 w hw
mutual
theorem zGP:∀ e:Ex,nf e≤24000→(z1V e).length≤nf e
 | .mk op s nl l,h=>by
  simp only [nf] at h ⊢
  have:=zHh l (1+s.length) h
  simp only [z1V,lAH]
  have h2:(if (op==0)=true then [s] else []).length≤1:=by split<;>simp
  omega
theorem zHh:∀ (l:List Ex) (n:Nat),nfs n l≤24000→n+(z3G l).length≤nfs n l
 | [],n,_=>by simp [z3G,nfs]
 | x::l,n,h=>by
  simp only [nfs] at h ⊢
  have hn:n≤24000:=by
   split at h
   ·assumption
   ·exact h
  rw [if_pos hn] at h ⊢
  have h1:=zHh l (n+nf x) h
  have h2:=zGP x (by omega)
  simp only [z3G,lAH]
  omega
end
theorem zMB:∀ (l:List Pl) (n:Nat),nls n l≤24000→n+(zAY l).length≤nls n l
 | [],n,_=>by simp [zAY,nls]
 | p::l,n,h=>by
  simp only [nls] at h ⊢
  have hn:n≤24000:=by
   split at h
   ·assumption
   ·exact h
  rw [if_pos hn] at h ⊢
  have h1:=zMB l _ h
  have h2:=zGP p.1 (by omega)
  have h3:=zGP p.2 (by omega)
  have e:(zAY (p::l)).length=(z1V p.1).length+(z1V p.2).length+(zAY l).length:=by
   simp only [zAY,lBU,lAH]
  omega
structure AskGood (r:Ru) (sg x y:List Bt):Prop where
 r2:okR2 r
 oc:(z7T r).length≤1000000
 sn:sg.length≤1000000
 xn:x.length≤1000000
 yn:y.length≤1000000
theorem zQG {r:Ru} {sg x y:List Bt} (hr:okR r) (ho:zJm r=false) (hw:[sg,x,y].foldl nww 0≤24000):AskGood r sg x y:=by
 unfold zJm at ho
 rw [lAC] at ho
 have h0:nls (nps (r.pairs.length+r.places.length) r.pairs) r.places≤24000:=by omega
 have h1:=zMB _ _ h0
 obtain ⟨h2,h3⟩:=zLy r.pairs (r.pairs.length+r.places.length) (by omega)
 obtain ⟨_,h4⟩:=z9e _ 0 hw
 have hs:=h4 sg (by simp)
 have hx:=h4 x (by simp)
 have hy:=h4 y (by simp)
 refine ⟨⟨hr,fun p hp=>by have:=h3 p hp;omega⟩,?_,by omega,by omega,by omega⟩
 unfold z7T
 rw [lAH]
 omega
abbrev Mt:=Nat × Nat × Nat
def MtR (a b:Mt):Prop:=a.1<b.1∨a.1=b.1∧(a.2.1<b.2.1∨a.2.1=b.2.1∧a.2.2<b.2.2)
def z7u (a b:Mt):Int:=if a.1≠b.1 then (a.1:Int)-b.1 else if a.2.1≠b.2.1 then (a.2.1:Int)-b.2.1 else (a.2.2:Int)-b.2.2
theorem z9Y (a b:Mt):z7u a b<0↔MtR a b:=by
 unfold z7u MtR
 split
 ·omega
 ·split<;>omega
theorem MtR.asymm {a b:Mt} (h:MtR a b):¬ MtR b a:=by
 unfold MtR at *
 omega
theorem MtR.trans {a b c:Mt} (h:MtR a b) (k:MtR b c):MtR a c:=by
 unfold MtR at *
 omega
theorem MtR.tri {a b:Mt} (h:a≠b):MtR a b∨MtR b a:=by
 obtain ⟨a1,a2,a3⟩:=a
 obtain ⟨b1,b2,b3⟩:=b
 unfold MtR
 simp only [ne_eq,Prod.mk.injEq] at h ⊢
 omega
def zAU (rows:Nat→List Nat) (len:Nat→Nat) (n:Nat):List Mt:=(List.range n).flatMap fun p=>(rows p).map fun k=>(p,len k,k)
def zER (rows:Nat→List Nat) (len:Nat→Nat) (n:Nat):List Mt:=(List.range n).flatMap fun p=>(List.range 6).flatMap fun l=>((rows p).filter fun k=>len k==l+1).map fun k=>(p,l+1,k)
theorem zPW {l:List Mt} (h:l.Pairwise MtR):l.Nodup:=h.imp fun {a b} hab e=>by
 subst e
 exact hab.asymm hab
theorem zEs:∀ {l k:List Mt},l.Pairwise MtR→k.Pairwise MtR→l.Perm k→l=k
 | [],k,_,_,hp=>(List.nil_perm.1 hp).symm ▸ rfl
 | a::l,[],_,_,hp=>by simp at hp
 | a::l,b::k,hl,hk,hp=>by
  have hab:a=b:=by
   rcases Classical.em (a=b) with h | h
   ·exact h
   ·exfalso
    have h1:a∈b::k:=hp.subset (lB2 ..)
    have h2:b∈a::l:=hp.symm.subset (lB2 ..)
    have h3:a∈k:=(lAT.1 h1).resolve_left h
    have h4:b∈l:=(lAT.1 h2).resolve_left fun e=>h e.symm
    exact ((lDC.1 hl).1 b h4).asymm ((lDC.1 hk).1 a h3)
  subst hab
  rw [zEs (lDC.1 hl).2 (lDC.1 hk).2 hp.cons_inv]
section
variable {rows:Nat→List Nat} {len:Nat→Nat} {n:Nat}
theorem zAR (hr:∀ p,(rows p).Pairwise (· < ·)):(zER rows len n).Pairwise MtR:=by
 unfold zER
 rw [List.pairwise_flatMap]
 refine ⟨fun p hp=>?_,?_⟩
 ·rw [List.pairwise_flatMap]
  refine ⟨fun l hl=>?_,?_⟩
  ·rw [List.pairwise_map]
   refine ((hr p).filter _).imp fun {a b} h=>?_
   exact .inr ⟨rfl,.inr ⟨rfl,h⟩⟩
  ·refine lDS.imp fun {a b} h=>?_
   intro x hx y hy
   obtain ⟨_,_,rfl⟩:=lA4.1 hx
   obtain ⟨_,_,rfl⟩:=lA4.1 hy
   exact .inr ⟨rfl,.inl (by simp only;omega)⟩
 ·refine lDS.imp fun {a b} h=>?_
  intro x hx y hy
  obtain ⟨_,_,hx⟩:=lBW.1 hx
  obtain ⟨_,_,hy⟩:=lBW.1 hy
  obtain ⟨_,_,rfl⟩:=lA4.1 hx
  obtain ⟨_,_,rfl⟩:=lA4.1 hy
  exact .inl h
theorem zGG (hr:∀ p,(rows p).Pairwise (· < ·)):(zAU rows len n).Nodup:=by
 unfold zAU List.Nodup
 rw [List.pairwise_flatMap]
 refine ⟨fun p hp=>?_,?_⟩
 ·rw [List.pairwise_map]
  refine (hr p).imp fun {a b} h e=>?_
  simp only [Prod.mk.injEq] at e
  omega
 ·refine lDS.imp fun {a b} h=>?_
  intro x hx y hy e
  obtain ⟨_,_,rfl⟩:=lA4.1 hx
  obtain ⟨_,_,rfl⟩:=lA4.1 hy
  simp only [Prod.mk.injEq] at e
  omega
theorem zPX (hl:∀ p,∀ k∈rows p,1≤len k∧len k≤6) (a:Mt):a∈zAU rows len n↔a∈zER rows len n:=by
 unfold zAU zER
 rw [lBW,lBW]
 constructor
 ·rintro ⟨p,hp,h⟩
  obtain ⟨k,hk,rfl⟩:=lA4.1 h
  obtain ⟨h1,h2⟩:=hl p k hk
  refine ⟨p,hp,lBW.2 ⟨len k-1,lAZ.2 (by omega),lA4.2 ⟨k,lCC.2 ⟨hk,?_⟩,?_⟩⟩⟩
  ·rw [lCY];omega
  ·rw [Nat.sub_add_cancel h1]
 ·rintro ⟨p,hp,h⟩
  obtain ⟨l,_,h⟩:=lBW.1 h
  obtain ⟨k,hk,rfl⟩:=lA4.1 h
  obtain ⟨hk,e⟩:=lCC.1 hk
  rw [lCY] at e
  exact ⟨p,hp,lA4.2 ⟨k,hk,by rw [e]⟩⟩
theorem zLK (hr:∀ p,(rows p).Pairwise (· < ·)) (hl:∀ p,∀ k∈rows p,1≤len k∧len k≤6):(zAU rows len n).mergeSort (fun a b=>!(decide (z7u b a<0)))=zER rows len n:=by
 have hperm:((zAU rows len n).mergeSort (fun a b=>!(decide (z7u b a<0)))).Perm (zAU rows len n):=List.mergeSort_perm _ _
 have hnd:=zGG (len:=len) (n:=n) hr
 have h2:(zAU rows len n).Perm (zER rows len n):=(List.perm_ext_iff_of_nodup hnd (zPW (zAR hr))).2 (zPX hl)
 refine zEs ?_ (zAR hr) (hperm.trans h2)
 have hs:=List.pairwise_mergeSort (le:=fun a b:Mt=>!(decide (z7u b a<0))) (fun a b c h1 h2=>by
  simp only [lC5,lAC,z9Y] at h1 h2 ⊢
  intro h
  rcases Classical.em (a=b) with e | e
  ·subst e;exact h2 h
  ·rcases MtR.tri e with e | e
   ·exact h2 (h.trans e)
   ·exact h1 e) (fun a b=>by
  simp only [lBX,lC5,lAC,z9Y]
  rcases Classical.em (MtR b a) with h | h
  ·exact .inr h.asymm
  ·exact .inl h) (zAU rows len n)
 have hnd2:=hperm.symm.nodup hnd
 refine (List.Pairwise.and hs hnd2).imp fun {a b} h=>?_
 simp only [lC5,lAC,z9Y] at h
 rcases MtR.tri h.2 with e | e
 ·exact e
 ·exact absurd e h.1
end
theorem zJB (x:List Bt):z9L [x]=z9L [x,x]:=by
 unfold z9L
 split
 ·rfl
 ·rename_i h
  unfold z9L
  rw [if_neg h];rfl
theorem z9d (r:Ru) (sg x:List Bt):zDh r sg [x]=zDh r sg [x,x]:=by
 unfold zDh
 rw [zJB];rfl
theorem zPt (r:Ru) (sg x:List Bt):zKN r sg [x]=zKN r sg [x,x]:=by
 unfold zKN
 rw [zJB];rfl
theorem z9C (r:Ru) (sg x:List Bt):zDh r sg [x]=zKN r sg [x]:=by rw [z9d,zPt,zPs]
theorem zNd {r:Ru} (h:z8Q r=0):∀ p∈r.pairs,p.a.l≠[]:=by
 intro p hp e
 unfold z8Q at h
 split at h
 ·exact absurd h (by decide)
 split at h
 ·exact absurd h (by decide)
 split at h
 ·rename_i h3
  rw [h] at h3;cases h3
 split at h
 ·rename_i h4
  rw [h] at h4;cases h4
 split at h
 ·exact absurd h (by decide)
 rename_i h5
 simp only [lCB] at h5
 unfold zBP at h5
 simp only [lCJ] at h5
 have h6:=h5.2
 unfold z6c at h6
 rw [lBV] at h6
 obtain ⟨i,hi,hpi⟩:=lBR.1 hp
 have h7:=h6 i (lAZ.2 hi)
 unfold z4J at h7
 rw [lAG hi,hpi] at h7
 simp [e] at h7
def z7w (r:Ru) (sg x:List Bt):List Mt :=
 (List.range x.length).flatMap fun p=>((z4M (r.pairs.map (z3u sg)) (z8F sg (z0d r)) (z3A sg (z0d r)) (x.map (mu sg))).getD p []).map fun q=>(p,q.2-p,q.1)
def zDB (r:Ru) (x:List Bt):List Mt:=zER (z3s r x) (zFM r) x.length
theorem zEu {r:Ru} {sg x:List Bt} (ho:OverR sg r) (hx:∀ s∈x,s∈sg):z7w r sg x=zAU (z3s r x) (zFM r) x.length:=by
 unfold z7w zAU
 have:∀ p∈List.range x.length,((z4M (r.pairs.map (z3u sg)) (z8F sg (z0d r)) (z3A sg (z0d r)) (x.map (mu sg))).getD p []).map (fun q=>(p,q.2-p,q.1))=(z3s r x p).map fun k=>(p,zFM r k,k):=fun p hp=>by
  rw [zLY ho hx (lAZ.1 hp)]
  unfold zYB
  rw [lB0]
  refine lD2 fun k _=>?_
  simp only [Function.comp]
  rw [lC4]
 rw [List.flatMap_def,List.flatMap_def,lD2 this]
theorem zJf (r:Ru) (x:List Bt) (p:Nat):(z3s r x p).Pairwise (· < ·):=by
 unfold z3s atR
 exact lDS.filter _
theorem zRN {r:Ru} (g:RuGood r) (hne:∀ p∈r.pairs,p.a.l≠[]) (x:List Bt) (p:Nat):∀ k∈z3s r x p,1≤zFM r k∧zFM r k≤6:=by
 intro k hk
 unfold z3s atR at hk
 have hl:=lAZ.1 (lCC.1 hk).1
 have e:r.pairs.getD k ⟨⟨true,[]⟩,⟨true,[]⟩⟩=r.pairs[k]:=by rw [lAB,lAG hl];rfl
 unfold zFM
 rw [e]
 have h1:=(g.pa _ (lBT hl)).1
 have h2:=hne _ (lBT hl)
 have h3:=lD4.2 h2
 exact ⟨h3,h1⟩
theorem zEt {r:Ru} {sg x:List Bt} (hr:okR r) (h:zDh r sg [x]=0):(z7w r sg x).mergeSort (fun a b=>!(decide (z7u b a<0)))=zDB r x:=by
 rw [z9d] at h
 obtain ⟨g,hh,_,ho⟩:=zDW (r:=r) (sg:=sg) (x:=x) (y:=x) hr h
 have hv:z8Q r=0:=by
  unfold zDh at h
  split at h
  ·rename_i h1
   rw [h] at h1;cases h1
  ·rename_i h1
   simpa using h1
 rw [zEu ho hh.xi]
 exact zLK (zJf r x) (zRN g (zNd hv) x)
end Go.Ab
