/- Part 50 of the proof. -/
import Derived.Test.YtagcckioikbanaaGreatDoorA33
import Derived.Test.YtagcckioikbanaaGreatDoorA37
import Derived.Test.YtagcckioikbanaaGreatDoorA47
import Derived.Test.YtagcckioikbanaaGreatDoorA49
set_option linter.unusedVariables false
set_option linter.unusedSimpArgs false
namespace Go.Ab
open Go
set_option maxRecDepth 100000
set_option maxHeartbeats 4000000
theorem zQA (l:List Bt):zLh l=zTp l:=by
 unfold zLh zTp
 by_cases h:(decide ((l.length:Int)>40)||l.any z1h)=true
 ·rw [if_pos h,if_pos h]
 rw [if_neg h,if_neg h]
 simp only [lB2,not_or,lCZ] at h
 obtain ⟨_,hl⟩:=h
 have hs:∀ s∈l,z2k s=z4q s:=fun s hs=>by
  have h1:z1h s=false:=by
   rw [lB1] at hl
   simpa using hl s hs
  unfold z1h at h1
  unfold z2k z4q
  congr 1
  rw [lAC] at h1
  cases s with
  | nil=>rfl
  | cons a s=>simp at h1 ⊢;omega
 have hget:∀ i,i<l.length→z2k (l.getD i [])=z4q (l.getD i []):=fun i hi=>by
  rw [lAB,lAG hi]
  exact hs _ (lBY hi)
 have:(List.range l.length).any (z4X l)=((l.any fun s=>!z2k s) || !z9r l):=by
  rw [lBM]
  unfold z9r
  rw [Bool.not_not,lB2,lA0,lA0,lA0]
  constructor
  ·rintro ⟨i,hi,h⟩
   have hi':=lA8.1 hi
   unfold z4X at h
   rw [lB2] at h
   rcases h with h | h
   ·left
    refine ⟨l.getD i [],?_,by rw [hget i hi'];exact h⟩
    rw [lAB,lAG hi']
    exact lBY hi'
   ·right
    exact ⟨i,hi,h⟩
  ·rintro (⟨s,hs1,h⟩ | ⟨i,hi,h⟩)
   ·obtain ⟨i,hi,rfl⟩:=lBW.1 hs1
    refine ⟨i,lA8.2 hi,?_⟩
    unfold z4X
    have e:l.getD i []=l[i]:=by rw [lAB,lAG hi];rfl
    rw [←hget i hi,e,h]
    rfl
   ·refine ⟨i,hi,?_⟩
    unfold z4X
    rw [lB2]
    exact .inr h
 rw [this]
theorem zKB (r:Ru) (sg x y:List Bt):zLk r sg [x,y]=zQr r sg [x,y]:=by
 unfold zLk zQr
 rw [zPf,zQA]
 have h:(z7y r++[x,y].headD []).any (z7G sg)=(!((z7y r).all fun t=>decide (t∈sg))||(![x,y].isEmpty && !(([x,y].headD []).all fun t=>decide (t∈sg)))):=by
  have hn:∀ l:List Bt,l.any (z7G sg) = !(l.all fun t=>decide (t∈sg)):=fun l=>by
   rw [List.not_all_eq_any_not];rfl
  rw [lDJ,hn,hn];rfl
 rw [h]
def Cor (f:Bt→UInt8) (S:List Bt) (g:Bt→Bool) (g':List Bt→Bool):Prop:=∀ w:List Bt,(∀ t∈w,t∈S)→g (w.map f)=g' w
theorem zAn (f:Bt→UInt8) (w:List Bt) (i k:Nat):sub (w.map f) i k=(sub w i k).map f:=by
 unfold sub
 rw [lDW,lD3]
theorem zAK {S w:List Bt} (h:∀ t∈w,t∈S) (i k:Nat):∀ t∈sub w i k,t∈S:=fun t ht=>h t (lDP (lB7 ht))
theorem z8s {S w:List Bt} (h:∀ t∈w,t∈S) (i:Nat):∀ t∈w.drop i,t∈S:=fun t ht=>h t (lDP ht)
theorem z8F {S w:List Bt} (h:∀ t∈w,t∈S) (i:Nat):∀ t∈w.take i,t∈S:=fun t ht=>h t (lB7 ht)
section cor
variable {f:Bt→UInt8} {S w:List Bt} {g:Bt→Bool} {g':List Bt→Bool}
theorem zJX (hc:Cor f S g g') (hw:∀ t∈w,t∈S) (is:Bool) (lo i:Nat) (l:List Bool):zDq g (w.map f) is lo i l=zDq g' w is lo i l:=by
 unfold zDq
 congr 1
 funext k b
 rw [zAn,hc _ (zAK hw i k)]
theorem zFs (hc:Cor f S g g') (hw:∀ t∈w,t∈S) (ends:List Bool):∀ i,z4m g (w.map f) ends i=z4m g' w ends i
 | 0=>by simp only [z4m,lAD]
 | i+1=>by simp only [z4m,zFs hc hw ends i,zJX hc hw]
theorem zDJ {β:Type} {F:β→Bt→Bool} {F':β→List Bt→Bool} (hw:∀ t∈w,t∈S):∀ (l:List β) (ends:List Bool),(∀ x∈l,Cor f S (F x) (F' x))→z3A (l.map F) (w.map f) ends=z3A (l.map F') w ends
 | [],_,_=>rfl
 | x::l,ends,h=>by
  simp only [lBA,z3A]
  have:zHV (F x) (w.map f) ends=zHV (F' x) w ends:=by
   unfold zHV
   rw [lAD,zFs (h x (lB4 ..)) hw]
  rw [this]
  exact zDJ hw l _ fun y hy=>h y (lA4 _ hy)
theorem zEz (hc:Cor f S g g') (hw:∀ t∈w,t∈S):∀ i,z3m g (w.map f) i=z3m g' w i
 | 0=>by simp only [z3m,lAD]
 | i+1=>by simp only [z3m,zEz hc hw i,zJX hc hw]
theorem zMF (hc:Cor f S g g'):Cor f S (z4h g) (z4h g'):=fun w hw=>by
 unfold z4h
 rw [lAD,zEz hc hw]
theorem zBk (hc:Cor f S g g'):Cor f S (z3N g) (z3N g'):=fun w hw=>by
 unfold z3N
 rw [lAD]
 congr 1
 funext i
 rw [←lD3,hc _ (z8s hw i)]
theorem z5s (hc:Cor f S g g'):Cor f S (z0r g) (z0r g'):=fun w hw=>by
 unfold z0r
 rw [lAD]
 congr 1
 funext i
 rw [←lDW,hc _ (z8F hw i)]
theorem zQf (hc:Cor f S g g'):Cor f S (zPY g) (zPY g'):=fun w hw=>by
 unfold zPY
 rw [lAD]
 congr 1
 funext i
 rw [←lD3,z5s hc _ (z8s hw i)]
theorem zMx {h k:Bt→Bool} {h' k':List Bt→Bool} (hc:Cor f S g g') (h2:Cor f S h h') (h3:Cor f S k k'):Cor f S (zFg g h k) (zFg g' h' k'):=fun w hw=>by
 unfold zFg
 rw [lAD]
 congr 1
 funext i
 congr 1
 funext j
 rw [zAn,hc _ (zAK hw i j),←lDW,←lD3,zBk h2 _ (z8F hw i),z5s h3 _ (z8s hw j)]
theorem zEG {β:Type} {F:β→Bt→Bool} {F':β→List Bt→Bool} {l:List β} (h:∀ x∈l,Cor f S (F x) (F' x)) (i:Nat):Cor f S ((l.map F).getD i fun _=>false) ((l.map F').getD i fun _=>false):=by
 rw [lAB,lAB,lAK,lAK]
 cases hx:l[i]? with
 | none=>exact fun _ _=>rfl
 | some x=>exact h x (lAF hx)
theorem zNr {β:Type} {F:β→Bt→Bool} {F':β→List Bt→Bool} {l:List β} {op:Int} {s:Bt} {s':List Bt} (h:∀ x∈l,Cor f S (F x) (F' x)) (hs:op=0→Cor f S (fun w=>w==s) (fun w=>w==s')):Cor f S (z2S op s (l.map F)) (z2S op s' (l.map F')):=fun w hw=>by
 have a0:=zEG h 0
 have a1:=zEG h 1
 have a2:=zEG h 2
 unfold z2S
 simp only
 by_cases o0:op=0
 ·rw [if_pos o0,if_pos o0];exact hs o0 w hw
 rw [if_neg o0,if_neg o0]
 have hl:(w.map f).length=w.length:=lAD _
 have he:(w.map f).isEmpty=w.isEmpty:=by cases w<;>rfl
 have hch:zBr (l.map F) (w.map f)=zBr (l.map F') w:=by
  unfold zBr
  rw [hl,zDJ hw l _ h]
 have hany:((l.map F).any fun f_1=>f_1 (w.map f))=(l.map F').any fun f=>f w:=by
  rw [List.any_map,List.any_map,lBM,lA0,lA0]
  constructor
  ·rintro ⟨x,hx,hh⟩
   exact ⟨x,hx,by simpa [h x hx w hw] using hh⟩
  ·rintro ⟨x,hx,hh⟩
   exact ⟨x,hx,by simpa [h x hx w hw] using hh⟩
 have hall:((l.map F).all fun f_1=>f_1 (w.map f))=(l.map F').all fun f=>f w:=by
  rw [List.all_map,List.all_map,lBM,lAZ,lAZ]
  constructor
  ·intro hh x hx
   have:=hh x hx
   simpa [h x hx w hw] using this
  ·intro hh x hx
   have:=hh x hx
   simpa [h x hx w hw] using this
 rw [hl,he,hch,hany,hall,a0 w hw,a1 w hw,zMF a0 w hw,zQf a0 w hw,zMx a0 a1 a2 w hw]
end cor
theorem zUR {sg:List Bt} (hn:sg.length≤256) {s t:Bt} (hs:s∈sg) (ht:t∈sg) (h:mu sg s=mu sg t):s=t:=by
 unfold mu at h
 have h1:=List.idxOf_lt_length_of_mem hs
 have h2:=List.idxOf_lt_length_of_mem ht
 have h3:=congrArg UInt8.toNat h
 rw [UInt8.toNat_ofNat',UInt8.toNat_ofNat',lD8 (by omega),lD8 (by omega)] at h3
 have e1:=List.getElem_idxOf h1
 have e2:=List.getElem_idxOf h2
 rw [←e1,←e2]
 congr 1
theorem zCy {sg:List Bt} (hn:sg.length≤256):∀ {v w:List Bt},(∀ t∈v,t∈sg)→(∀ t∈w,t∈sg)→v.map (mu sg)=w.map (mu sg)→v=w
 | [],[],_,_,_=>rfl
 | [],_::_,_,_,h=>by cases h
 | _::_,[],_,_,h=>by cases h
 | a::v,b::w,hv,hw,h=>by
  simp only [lBA,List.cons.injEq] at h
  rw [zUR hn (hv a (lB4 ..)) (hw b (lB4 ..)) h.1,zCy hn (fun t ht=>hv t (lA4 _ ht)) (fun t ht=>hw t (lA4 _ ht)) h.2]
theorem zPK {sg:List Bt} (hn:sg.length≤256) {v w:List Bt} (hv:∀ t∈v,t∈sg) (hw:∀ t∈w,t∈sg):(v.map (mu sg)==w.map (mu sg))=(v==w):=by
 rw [lBM,lDF,lDF]
 exact ⟨zCy hn hv hw,fun e=>by rw [e]⟩
mutual
theorem z8t {sg:List Bt} (hn:sg.length≤256):∀ e:Ex,(∀ t∈z1d e,t∈sg)→Cor (mu sg) sg (z6G (syW sg) e) (z6G zCC e)
 | .mk op s nl l,h=>by
  have hl:=zGa hn l (fun t ht=>h t (by simp only [z1d];exact lCE _ ht))
  intro w hw
  simp only [z6G,zBp]
  refine zNr hl (fun h0=>?_) w hw
  intro v hv
  have hs:s∈sg:=h s (by simp [z1d,h0])
  rw [if_pos h0,if_pos h0]
  exact zPK hn hv (w:=[s]) (fun t ht=>by rw [lAR.1 ht];exact hs)
theorem zGa {sg:List Bt} (hn:sg.length≤256):∀ l:List Ex,(∀ t∈z3Z l,t∈sg)→∀ x∈l,Cor (mu sg) sg (z6G (syW sg) x) (z6G zCC x)
 | [],_,x,hx=>by cases hx
 | y::l,h,x,hx=>by
  rcases lAV.1 hx with e | hx
  ·rw [e]
   exact z8t hn y (fun t ht=>h t (by simp only [z3Z];exact lCK _ ht))
  ·exact zGa hn l (fun t ht=>h t (by simp only [z3Z];exact lCE _ ht)) x hx
end
structure OverR (sg:List Bt) (r:Ru):Prop where
 n:sg.length≤256
 pa:∀ p∈r.pairs,(∀ t∈p.a.l,t∈sg)∧∀ t∈p.b.l,t∈sg
 pl:∀ p∈r.places,(∀ t∈z1d p.1,t∈sg)∧∀ t∈z1d p.2,t∈sg
section
variable {sg:List Bt} {r:Ru}
def prD:Pr:=⟨⟨true,[]⟩,⟨true,[]⟩⟩
theorem zSN (n:Nat):(r.pairs.map (z2G sg)).getD n ([],[])=z2G sg (r.pairs.getD n prD):=by
 rw [lAB,lAB,lAK]
 cases r.pairs[n]?<;>rfl
theorem zBG:z5a (r.pairs.map (z2G sg))=z3e r:=by
 funext n
 unfold z5a z3e
 rw [zSN]
 unfold z2G
 rw [lAD];rfl
theorem zKS (n:Nat):((r.pairs.map (z2G sg)).getD n ([],[])).2=(toW r n).map (mu sg):=by
 rw [zSN];rfl
theorem zNV (ho:OverR sg r) (n:Nat):∀ t∈(r.pairs.getD n prD).a.l,t∈sg:=fun t ht=>by
 rw [lAB] at ht
 cases hp:r.pairs[n]? with
 | none=>rw [hp] at ht;cases ht
 | some p=>rw [hp] at ht;exact (ho.pa p (lAF hp)).1 t ht
theorem zJK (ho:OverR sg r) (n:Nat):∀ t∈toW r n,t∈sg:=fun t ht=>by
 unfold toW at ht
 rw [lAB] at ht
 cases hp:r.pairs[n]? with
 | none=>rw [hp] at ht;cases ht
 | some p=>rw [hp] at ht;exact (ho.pa p (lAF hp)).2 t ht
theorem zJx (ho:OverR sg r) {x w:List Bt} (hx:∀ t∈x,t∈sg) (hw:∀ t∈w,t∈sg) (p:Nat):zEj (x.map (mu sg)) p (w.map (mu sg))=z3s x p w:=by
 unfold zEj z3s
 rw [lAD,lAD,zAn,zPK ho.n (zAK hx _ _) hw]
theorem zNd (ho:OverR sg r) {x w:List Bt} (hx:∀ t∈x,t∈sg) (hw:∀ t∈w,t∈sg) (p:Nat):zTH (w.map (mu sg)) ((x.map (mu sg)).drop p)=z3s x p w:=by
 unfold zTH z3s
 have h:((x.map (mu sg)).drop p).take (w.map (mu sg)).length=(sub x p (p+w.length)).map (mu sg):=by
  rw [lAD,←zAn]
  unfold sub
  rw [lC4]
 rw [h,zPK ho.n (zAK hx _ _) hw,lAD,lDB,lAD]
theorem zQZ (ho:OverR sg r) {a x:List Bt} (ha:∀ t∈a,t∈sg) (hx:∀ t∈x,t∈sg) :
  ((zFf (z5T sg (z0a r)) (a.map (mu sg))).any fun i=>((z2J sg (z0a r)).getD i fun _=>false) (x.map (mu sg)))=zRW r.places a x:=by
 have h1:((zFf (z5T sg (z0a r)) (a.map (mu sg))).any fun i=>((z2J sg (z0a r)).getD i fun _=>false) (x.map (mu sg)))=(z0a r).any fun p=>z3N (z6G (syW sg) p.1) (a.map (mu sg))&&z0r (z6G (syW sg) p.2) (x.map (mu sg)):=by
  generalize z0a r=L
  unfold zFf z5T z2J
  rw [lBM,lA0,lA0]
  constructor
  ·rintro ⟨i,hi,h⟩
   obtain ⟨hi,h2⟩:=lBT.1 hi
   have hl:=lA8.1 hi
   rw [lAD] at hl
   refine ⟨L[i],lBY hl,?_⟩
   rw [lAB,lAK,lAG hl] at h h2
   rw [lAS]
   exact ⟨h2,h⟩
  ·rintro ⟨p,hp,h⟩
   obtain ⟨i,hi,rfl⟩:=lBW.1 hp
   rw [lAS] at h
   refine ⟨i,lBT.2 ⟨lA8.2 (by rw [lAD];exact hi),?_⟩,?_⟩
   ·rw [lAB,lAK,lAG hi];exact h.1
   ·rw [lAB,lAK,lAG hi];exact h.2
 rw [h1]
 unfold zRW z0a
 cases he:r.places.isEmpty
 ·rw [lCP,if_neg (by simp)]
  rw [lBM,lA0,lA0]
  constructor
  ·rintro ⟨p,hp,h⟩
   refine ⟨p,hp,?_⟩
   rw [←zBk (z8t ho.n p.1 (ho.pl p hp).1) a ha,←z5s (z8t ho.n p.2 (ho.pl p hp).2) x hx]
   exact h
  ·rintro ⟨p,hp,h⟩
   refine ⟨p,hp,?_⟩
   rw [zBk (z8t ho.n p.1 (ho.pl p hp).1) a ha,z5s (z8t ho.n p.2 (ho.pl p hp).2) x hx]
   exact h
 ·rw [if_pos rfl,lED]
  have hd:∀ w:Bt,z6G (syW sg) z6A w=w.isEmpty:=fun w=>rfl
  have e1:z3N (z6G (syW sg) z6A) (a.map (mu sg))=true:=by
   unfold z3N
   rw [lA0]
   exact ⟨(a.map (mu sg)).length,lA8.2 (Nat.lt_succ_self _),by rw [hd,lDK];rfl⟩
  have e2:z0r (z6G (syW sg) z6A) (x.map (mu sg))=true:=by
   unfold z0r
   rw [lA0]
   exact ⟨0,lA8.2 (Nat.succ_pos _),by rw [hd,List.take_zero];rfl⟩
  simp only [List.any_cons,List.any_nil,e1,e2,Bool.and_self,Bool.or_false]
theorem zPM (ho:OverR sg r) {x a:List Bt} (hx:∀ t∈x,t∈sg) (ha:∀ t∈a,t∈sg) (p:Nat) :
  atP (r.pairs.map (z2G sg)) (z5T sg (z0a r)) (z2J sg (z0a r)) (a.map (mu sg)) ((x.map (mu sg)).drop p)=atR r x p a:=by
 unfold atP atR
 rw [lAD]
 congr 1
 funext n
 unfold zLj zTq
 have hf:((r.pairs.map (z2G sg)).getD n ([],[])).1=(r.pairs.getD n prD).a.l.map (mu sg):=by rw [zSN];rfl
 rw [hf,zNd ho hx (zNV ho n),lAD,List.drop_drop,←lD3,zQZ ho ha (z8s hx _)]
 rfl
def zFv (len:Nat→Nat) (p:Nat) (l:List Nat):List (Nat × Nat):=l.map fun n=>(n,p+len n)
theorem zQS (ho:OverR sg r) {x a:List Bt} (hx:∀ t∈x,t∈sg) (ha:∀ t∈a,t∈sg) (p:Nat) :
  zPX (r.pairs.map (z2G sg)) (z5T sg (z0a r)) (z2J sg (z0a r)) (a.map (mu sg)) (x.map (mu sg)) p=zFv (z3e r) p (atR r x p a):=by
 unfold zPX zFv
 rw [zPM ho hx ha,zBG]
theorem zFM (ho:OverR sg r) {x:List Bt} (hx:∀ t∈x,t∈sg) {p:Nat} (hp:p<x.length) :
  (z2s (r.pairs.map (z2G sg)) (z5T sg (z0a r)) (z2J sg (z0a r)) (x.map (mu sg))).getD p []=zFv (z3e r) p (zAE r x p):=by
 unfold z2s
 rw [lAB,lAK,lAD,lCF hp]
 simp only [lBN,lCY]
 unfold z8w zAE zFv
 rw [←lDW,zPM ho hx (z8F hx p)]
 have:(fun n=>(n,p+((r.pairs.map (z2G sg)).getD n ([],[])).1.length))=fun n=>(n,p+z3e r n):=by
  rw [←zBG (sg:=sg)];rfl
 rw [this]
theorem zGj (kind:Int) (len:Nat→Nat):∀ (l:List Nat) (b:Int),l.foldl (zAD kind len) b=b∨∃ n∈l,l.foldl (zAD kind len) b=len n
 | [],b=>.inl rfl
 | a::l,b=>by
  simp only [lDU]
  rcases zGj kind len l (zAD kind len b a) with h | ⟨n,hn,h⟩
  ·rw [h]
   unfold zAD
   split
   ·exact .inr ⟨a,lB4 ..,rfl⟩
   ·exact .inl rfl
  ·exact .inr ⟨n,lA4 _ hn,h⟩
theorem zGh (kind:Int) (len:Nat→Nat):∀ (l:List Nat) (b:Int),0≤b→0≤l.foldl (zAD kind len) b
 | [],b,h=>h
 | a::l,b,h=>by
  simp only [lDU]
  refine zGh kind len l _ ?_
  unfold zAD
  split
  ·omega
  ·exact h
theorem zKZ (kind:Int) (len:Nat→Nat) (l:List Nat):(z2c kind len l).isEmpty=l.isEmpty:=by
 cases l with
 | nil=>rfl
 | cons a l =>
  have hne:z7u kind len (a::l)≠-1:=by
   unfold z7u
   simp only [lDU]
   have:zAD kind len (-1) a=len a:=by
    unfold zAD
    rw [if_pos (by simp)]
   rw [this]
   have:=zGh kind len l (len a) (by omega)
   omega
  rcases zGj kind len (a::l) (-1) with h | ⟨n,hn,h⟩
  ·exact absurd h hne
  ·have:n∈z2c kind len (a::l):=lBT.2 ⟨hn,by
    unfold z7u
    rw [h];simp⟩
   cases ht:z2c kind len (a::l) with
   | nil=>rw [ht] at this;cases this
   | cons=>rfl
theorem zNK (kind:Int) (len:Nat→Nat) (l:List Nat) (p:Nat):z5n kind len (zFv len p l) p=if l.isEmpty then [(-1,p+1)] else (zFv len p (z2c kind len l)).map z1K:=by
 unfold z5n
 have h1:(zFv len p l).isEmpty=l.isEmpty:=by unfold zFv;cases l<;>rfl
 have h2:(zFv len p l).map Prod.fst=l:=by
  unfold zFv
  rw [lB0]
  exact List.map_id'' (fun _=>rfl) l
 rw [h1,h2]
 congr 2
 unfold zFv
 rw [List.filter_map]
 congr 1
 unfold z2c
 refine List.filter_congr fun n hn=>?_
 simp only [Function.comp]
 rw [lBM,lA0]
 constructor
 ·rintro ⟨m,hm,h⟩
  have e:n=m:=by
   have:=eq_of_beq h
   omega
  subst e
  exact (lBT.1 hm).2
 ·intro h
  exact ⟨n,lBT.2 ⟨hn,h⟩,by simp⟩
end
theorem zGt {α:Type} {w:List α} {i:Nat} (d:α) (h:i<w.length):sub w i (i+1)=[w.getD i d]:=by
 unfold sub
 rw [lC4,lBQ h,lAB,lAG h];rfl
def z7Z (x y:List Bt) (t:Pt):Bool:=decide (t.2.1<y.length)&&(x.getD t.1 []==y.getD t.2.1 [])
section
variable {sg:List Bt} {r:Ru} {x y:List Bt} {t:Pt}
theorem zKs (ho:OverR sg r) (hy:∀ s∈y,s∈sg) (L:List Nat) :
  (((zFv (z3e r) t.1 L).map z1K).filter fun m=>zEj (y.map (mu sg)) t.2.1 (z2j (r.pairs.map (z2G sg)) (x.map (mu sg)) t m)).map (goP (r.pairs.map (z2G sg)) (x.map (mu sg)) t)=(L.filter fun n=>z3s y t.2.1 (toW r n)).map (goR r t):=by
 unfold zFv
 rw [lB0,List.filter_map,lB0]
 have hw:∀ n:Nat,z2j (r.pairs.map (z2G sg)) (x.map (mu sg)) t (z1K (n,t.1+z3e r n))=(toW r n).map (mu sg):=fun n=>by
  unfold z2j z1K
  rw [if_neg (by simp only;omega)]
  exact zKS n
 have h1:((fun m=>zEj (y.map (mu sg)) t.2.1 (z2j (r.pairs.map (z2G sg)) (x.map (mu sg)) t m)) ∘ (z1K ∘ fun n=>(n,t.1+z3e r n)))=fun n=>z3s y t.2.1 (toW r n):=by
  funext n
  simp only [Function.comp]
  rw [hw,zJx ho hy (zJK ho n)]
 have h2:(goP (r.pairs.map (z2G sg)) (x.map (mu sg)) t) ∘ (z1K ∘ fun n=>(n,t.1+z3e r n))=goR r t:=by
  funext n
  simp only [Function.comp]
  unfold goP
  rw [hw,lAD]
  unfold z1K goR
  rw [if_neg (by simp only;omega)]
 rw [h1,h2]
theorem zME (ho:OverR sg r) (hx:∀ s∈x,s∈sg) (hy:∀ s∈y,s∈sg) (ht:t.1<x.length) :
  ([((-1:Int),t.1+1)].filter fun m=>zEj (y.map (mu sg)) t.2.1 (z2j (r.pairs.map (z2G sg)) (x.map (mu sg)) t m)).map (goP (r.pairs.map (z2G sg)) (x.map (mu sg)) t)=if z7Z x y t then [(t.1+1,t.2.1+1,t.2.2)] else []:=by
 have hw:z2j (r.pairs.map (z2G sg)) (x.map (mu sg)) t ((-1:Int),t.1+1)=[x.getD t.1 []].map (mu sg):=by
  unfold z2j
  rw [if_pos (show (-1:Int)<0 by decide),zAn,zGt [] ht]
 have hin:x.getD t.1 []∈sg:=by
  rw [lAB,lAG ht]
  exact hx _ (lBY ht)
 have hf:zEj (y.map (mu sg)) t.2.1 (z2j (r.pairs.map (z2G sg)) (x.map (mu sg)) t ((-1:Int),t.1+1))=z7Z x y t:=by
  rw [hw,zJx ho hy (fun s hs=>by rw [lAR.1 hs];exact hin)]
  unfold z3s z7Z
  simp only [lBZ]
  by_cases hd:t.2.1<y.length
  ·rw [zGt [] hd,decide_eq_true hd,decide_eq_true (by omega)]
   rw [lBM]
   simp only [lCW,lDF,List.cons.injEq,and_true]
   exact ⟨fun h=>h.symm,fun h=>h.symm⟩
  ·rw [decide_eq_false hd,decide_eq_false (by omega)];rfl
 have hg:goP (r.pairs.map (z2G sg)) (x.map (mu sg)) t ((-1:Int),t.1+1)=(t.1+1,t.2.1+1,t.2.2):=by
  unfold goP
  rw [hw]
  simp
 simp only [List.filter_cons,List.filter_nil,hf]
 cases z7Z x y t
 ·rfl
 ·simp only [if_true,lBA,lCU,hg]
theorem zNE (ho:OverR sg r) (hx:∀ s∈x,s∈sg) (hy:∀ s∈y,s∈sg) (hk:r.kind=0∨r.kind=1∨r.kind=2∨r.kind=3) (hb:r.below=true→r.kind=2∨r.kind=3) (ht:t.1<x.length) (hft:t.2.2≤t.1) :
  zFr r.kind r.below (r.pairs.map (z2G sg)) (z5T sg (z0a r)) (z2J sg (z0a r)) (x.map (mu sg)) (y.map (mu sg)) t=z7H r x y (z3C r x) t:=by
 have hrow:(z2s (r.pairs.map (z2G sg)) (z5T sg (z0a r)) (z2J sg (z0a r)) (x.map (mu sg))).getD t.1 []=zFv (z3e r) t.1 (zAE r x t.1):=zFM ho hx ht
 have hbel:zPX (r.pairs.map (z2G sg)) (z5T sg (z0a r)) (z2J sg (z0a r)) ((y.map (mu sg)).take t.2.1) (x.map (mu sg)) t.1=zFv (z3e r) t.1 (atR r x t.1 (y.take t.2.1)):=by
  rw [←lDW]
  exact zQS ho hx (z8F hy _) t.1
 have hends:(List.range (t.1+1-t.2.2)).any (fun i=>((z2s (r.pairs.map (z2G sg)) (z5T sg (z0a r)) (z2J sg (z0a r)) (x.map (mu sg))).getD (t.2.2+i) []).any fun q=>q.2==t.1+1)=zER (z3e r) (z3C r x) t.2.2 (t.1+1):=by
  unfold zER
  have:∀ i∈List.range (t.1+1-t.2.2),((z2s (r.pairs.map (z2G sg)) (z5T sg (z0a r)) (z2J sg (z0a r)) (x.map (mu sg))).getD (t.2.2+i) []).any (fun q=>q.2==t.1+1)=zTr (z3e r) (z3C r x) (t.1+1) (t.2.2+i):=fun i hi=>by
   have hi:=lA8.1 hi
   rw [zFM ho hx (by omega)]
   unfold zTr zFv
   rw [z8U (by omega),List.any_map];rfl
  rw [lBM,lA0,lA0]
  constructor
  ·rintro ⟨i,hi,h⟩
   exact ⟨i,hi,by rw [←this i hi];exact h⟩
  ·rintro ⟨i,hi,h⟩
   exact ⟨i,hi,by rw [this i hi];exact h⟩
 have hplen:=zBG (sg:=sg) (r:=r)
 have hN:z5z r x y (z3C r x) t=if r.below then atR r x t.1 (y.take t.2.1) else zAE r x t.1:=by
  unfold z5z
  rw [z8U ht]
 have hpn:=fun L=>zKs (t:=t) (x:=x) ho hy L
 have hsn:=zME (t:=t) ho hx hy ht
 by_cases hg:r.kind=2∨r.kind=3
 ·have hgr:z5x r=true:=by
   unfold z5x
   rcases hg with h | h<;>rw [h]<;>rfl
  have hk0:(r.kind==0)=false:=by rcases hg with h | h<;>rw [h]<;>rfl
  have hways:z8z r.kind r.below (r.pairs.map (z2G sg)) (z5T sg (z0a r)) (z2J sg (z0a r)) (x.map (mu sg)) (y.map (mu sg)) t=z5n r.kind (z3e r) (zFv (z3e r) t.1 (z5z r x y (z3C r x) t)) t.1:=by
   unfold z8z
   rw [hbel,hrow,hplen,hN]
   cases r.below
   ·rw [if_neg (by simp),if_neg (by omega),if_neg (by omega),if_neg (by simp)]
   ·rw [if_pos rfl,if_pos rfl]
  unfold zFr
  rw [hways,zNK]
  unfold z7H z9E zFp
  rw [hgr,if_pos rfl,if_pos rfl,zKZ,hk0]
  generalize z5z r x y (z3C r x) t=N at *
  cases hN0:N.isEmpty
  ·rw [if_neg (by simp),hpn]
   simp
  ·rw [if_pos rfl,hsn]
   have:N=[]:=lCX.1 hN0
   subst this
   unfold z7Z
   simp [z2c]
 ·have hgr:z5x r=false:=by
   unfold z5x
   rcases hk with h | h | h | h
   ·rw [h];rfl
   ·rw [h];rfl
   ·exact absurd (.inl h) hg
   ·exact absurd (.inr h) hg
  have hbf:r.below=false:=by
   cases h:r.below
   ·rfl
   ·exact absurd (hb h) hg
  have hN1:zFp r x y (z3C r x) t=zAE r x t.1:=by
   unfold zFp
   rw [hgr,if_neg (by simp),hN,hbf,if_neg (by simp)]
  unfold zFr z8z
  rw [hbf,if_neg (by simp)]
  unfold z7H z9E
  rw [hN1,hgr]
  rcases hk with h | h | h | h
  ·rw [if_pos h,h]
   unfold zFu
   rw [hrow,hends,lCV,lBE,hpn]
   congr 1
   cases zER (z3e r) (z3C r x) t.2.2 (t.1+1)
   ·rw [if_neg (by simp),hsn]
    unfold z7Z
    simp
   ·simp
  ·rw [if_neg (by omega),if_pos h,h]
   unfold zRX
   rw [hrow,lCV,lBE,hpn,hsn]
   congr 1
   unfold z7Z
   simp
  ·exact absurd (.inl h) hg
  ·exact absurd (.inr h) hg
end
theorem z7g:∀ {l z0g:List Pt} {t:Pt},t∈pushAll z0g l→t∈z0g∨t∈l
 | [],z0g,t,h=>.inl h
 | a::l,z0g,t,h=>by
  rcases z7g (l:=l) (z0g:=push z0g a) h with h | h
  ·unfold push at h
   split at h
   ·exact .inl h
   ·rcases lA5.1 h with h | h
    ·exact .inl h
    ·exact .inr (by rw [lAR.1 h];exact lB4 ..)
  ·exact .inr (lA4 _ h)
theorem zEY {nxt nxt':Pt→List Pt} {fin ok:Pt→Bool} {P:Pt→Prop} (h:∀ t,P t→fin t=false→nxt t=nxt' t∧∀ n∈nxt' t,P n):∀ (f:Nat) (z0g:List Pt) (i:Nat),(∀ t∈z0g,P t)→bfs nxt fin ok f z0g i=bfs nxt' fin ok f z0g i
 | 0,_,_,_=>rfl
 | f+1,z0g,i,hp=>by
  simp only [bfs]
  cases ht:z0g[i]? with
  | none=>rfl
  | some t =>
   have htp:=hp t (lAF ht)
   simp only
   cases hf:fin t
   ·obtain ⟨e,hn⟩:=h t htp hf
    rw [if_neg (by simp),if_neg (by simp),e]
    exact zEY h f _ _ fun s hs=>(z7g hs).elim (hp s) (hn s)
   ·rw [if_pos rfl,if_pos rfl,zEY h f z0g (i+1) hp]
theorem zHr {nxt:Pt→List Pt} {fin ok:Pt→Bool} {P:Pt→Prop} (h:∀ t,P t→fin t=false→∀ n∈nxt t,P n):∀ (f:Nat) (z0g:List Pt) (i:Nat),(∀ t∈z0g,P t)→bfs nxt fin ok f z0g i=true→∃ t,P t∧fin t=true∧ok t=true
 | 0,_,_,_,hr=>by cases hr
 | f+1,z0g,i,hp,hr=>by
  simp only [bfs] at hr
  cases ht:z0g[i]? with
  | none=>rw [ht] at hr;cases hr
  | some t =>
   have htp:=hp t (lAF ht)
   rw [ht] at hr
   simp only at hr
   cases hf:fin t
   ·rw [hf,if_neg (by simp)] at hr
    exact zHr h f _ _ (fun s hs=>(z7g hs).elim (hp s) (h t htp hf s)) hr
   ·rw [hf,if_pos rfl] at hr
    cases ho:ok t
    ·rw [ho,if_neg (by simp)] at hr
     exact zHr h f _ _ hp hr
    ·exact ⟨t,htp,hf,ho⟩
section
variable {sg:List Bt} {r:Ru} {x y:List Bt}
theorem zEy (X Y:Nat):∀ t∈[((0,0,0):Pt)],InB X Y t:=fun t ht=>by
 rw [lAR.1 ht];exact ⟨by simp,by simp,by simp⟩
theorem zMk (ho:OverR sg r) (hx:∀ s∈x,s∈sg) (hy:∀ s∈y,s∈sg) (hk:r.kind=0∨r.kind=1∨r.kind=2∨r.kind=3) (hb:r.below=true→r.kind=2∨r.kind=3) :
  zJt r.kind r.below (r.pairs.map (z2G sg)) (z5T sg (z0a r)) (z2J sg (z0a r)) (x.map (mu sg)) (y.map (mu sg))=zHN r x y:=by
 unfold zJt zHN
 rw [lAD,lAD]
 refine zEY (P:=InB x.length y.length) (fun t hp hf=>?_) _ _ _ (zEy _ _)
 have ht:t.1<x.length:=by
  have h1:=hp.1
  have h2:t.1≠x.length:=by simpa using hf
  omega
 exact ⟨zNE ho hx hy hk hb ht hp.2.2,zBR hp ht⟩
theorem zEu {w:List Bt} {i:Nat} {k:Nat}:w.take (i+k)=w.take i++sub w i (i+k):=by
 unfold sub
 rw [lC4,List.take_add]
theorem zMm (ho:OverR sg r) (hx:∀ s∈x,s∈sg) (h:zHN r x y=true):∀ s∈y,s∈sg:=by
 obtain ⟨t,⟨_,hp⟩,hf,hok⟩:=zHr (P:=fun t=>InB x.length y.length t∧∀ s∈y.take t.2.1,s∈sg) (fun t hp hf n hn=>by
  have ht:t.1<x.length:=by
   have h1:=hp.1.1
   have h2:t.1≠x.length:=by simpa using hf
   omega
  refine ⟨zBR hp.1 ht n hn,?_⟩
  unfold z7H at hn
  rcases lA5.1 hn with hn | hn
  ·obtain ⟨m,hm,rfl⟩:=lBB.1 hn
   have hfit:=(lBT.1 hm).2
   unfold z3s at hfit
   simp only [lAS,lAE,lDF] at hfit
   intro s hs
   unfold goR at hs
   simp only at hs
   rw [zEu,hfit.2] at hs
   rcases lA5.1 hs with hs | hs
   ·exact hp.2 s hs
   ·exact zJK ho m s hs
  ·split at hn
   ·rename_i hst
    rw [lAR] at hn
    subst hn
    unfold z9E at hst
    simp only [lAS,lAE,lDF] at hst
    obtain ⟨⟨⟨_,h1⟩,h2⟩,_⟩:=hst
    intro s hs
    simp only at hs
    rw [zEu,zGt [] h1,←h2] at hs
    rcases lA5.1 hs with hs | hs
    ·exact hp.2 s hs
    ·rw [lAR.1 hs,lAB,lAG ht]
     exact hx _ (lBY ht)
   ·cases hn) _ _ _ (fun t ht=>⟨zEy _ _ t ht,by rw [lAR.1 ht];simp⟩) h
 have:t.2.1=y.length:=by simpa using hok
 rw [this,lAW] at hp
 exact hp
end
theorem zNX {op:Int} {s:Bt} {n:Nat} (h:z3M (z6C op) op s n=false) (hm:z7P op=false):Form op n:=by
 unfold z3M at h
 unfold z7P at hm
 simp only [lC8,lAC,beq_eq_false_iff_ne] at h hm
 have h1:¬ (n:Int)<(z6C op).1:=h.1.1.2
 refine ⟨fun ho=>?_,fun ho=>?_,fun ho=>?_,hm.2,hm.1⟩
 ·have e:(z6C op).1=1:=by rcases ho with rfl | rfl | rfl | rfl | rfl<;>rfl
  rw [e] at h1;omega
 ·subst ho
  have e:(z6C 7).1=2:=rfl
  rw [e] at h1;omega
 ·subst ho
  have e:(z6C 14).1=3:=rfl
  rw [e] at h1;omega
theorem zJY {op:Int} {s:Bt} {nl:Bool} {l:List Ex} (h:(Ex.mk op s nl l).right=true):z3M (z6C op) op s l.length=false∧z6U l=true:=by
 simp only [Ex.right,lAS,Bool.not_eq_true'] at h
 exact ⟨h.1.1,h.2⟩
theorem zRT {op:Int} {s:Bt} {nl:Bool} {l:List Ex} (h:(Ex.mk op s nl l).odd=false):z7P op=false∧zQR l=false:=by
 simp only [Ex.odd,lC8] at h
 exact h
mutual
theorem zAk:∀ e:Ex,e.right=true→e.odd=false→∀ x∈z3k e,Form x.opR x.kids.length∧x.kids.length≤e.size
 | .mk op s nl l,hr,ho,x,hx=>by
  obtain ⟨h1,h2⟩:=zJY hr
  obtain ⟨h3,h4⟩:=zRT ho
  simp only [z3k] at hx
  have hl:=z1U l
  rcases lAV.1 hx with e | hx
  ·rw [e]
   exact ⟨zNX h1 h3,by simp only [Ex.kids,Ex.size];omega⟩
  ·obtain ⟨a,b⟩:=zCT l h2 h4 x hx
   exact ⟨a,by simp only [Ex.size];omega⟩
theorem zCT:∀ l:List Ex,z6U l=true→zQR l=false→∀ x∈z5d l,Form x.opR x.kids.length∧x.kids.length≤z0Z l
 | [],_,_,x,hx=>by cases hx
 | e::l,hr,ho,x,hx=>by
  simp only [z6U,lAS] at hr
  simp only [zQR,lC8] at ho
  simp only [z5d] at hx
  rcases lA5.1 hx with hx | hx
  ·obtain ⟨a,b⟩:=zAk e hr.1 ho.1 x hx
   exact ⟨a,by simp only [z0Z];omega⟩
  ·obtain ⟨a,b⟩:=zCT l hr.2 ho.2 x hx
   exact ⟨a,by simp only [z0Z];omega⟩
end
theorem zFn (sy:Bt→Bt):∀ (l:List Ex) (n:Nat),(z6E sy n l).length=l.length
 | [],n=>rfl
 | x::l,n=>by simp only [z6E,lBC,zFn sy l]
mutual
theorem zNb (sy:Bt→Bt):∀ (e:Ex) (n:Nat),e.right=true→e.odd=false→e.size≤1000→∀ m∈flN (z8d sy n e),m.form
 | .mk op s nl l,n,hr,ho,hs,m,hm=>by
  obtain ⟨h1,h2⟩:=zJY hr
  obtain ⟨h3,h4⟩:=zRT ho
  have hl:=z1U l
  simp only [Ex.size] at hs
  simp only [z8d,flN] at hm
  rcases lAV.1 hm with e | hm
  ·rw [e]
   simp only [Nd.form,zFn]
   exact ⟨zNX h1 h3,by omega⟩
  ·exact zJw sy l (n+1) h2 h4 (by omega) m hm
theorem zJw (sy:Bt→Bt):∀ (l:List Ex) (n:Nat),z6U l=true→zQR l=false→z0Z l≤1000→∀ m∈zAB (z6E sy n l),m.form
 | [],n,_,_,_,m,hm=>by simp [z6E,zAB] at hm
 | e::l,n,hr,ho,hs,m,hm=>by
  simp only [z6U,lAS] at hr
  simp only [zQR,lC8] at ho
  simp only [z0Z] at hs
  simp only [z6E,zAB] at hm
  rcases lA5.1 hm with hm | hm
  ·exact zNb sy e n hr.1 ho.1 (by omega) m hm
  ·exact zJw sy l (n+e.size) hr.2 ho.2 (by omega) m hm
end
theorem zGR (sy:Bt→Bt):∀ (l:List Ex) (n:Nat),(∀ e∈l,e.right=true∧e.odd=false∧e.size≤1000)→∀ m∈zAB (z6E sy n l),m.form
 | [],n,_,m,hm=>by simp [z6E,zAB] at hm
 | e::l,n,h,m,hm=>by
  simp only [z6E,zAB] at hm
  obtain ⟨h1,h2,h3⟩:=h e (lB4 ..)
  rcases lA5.1 hm with hm | hm
  ·exact zNb sy e n h1 h2 h3 m hm
  ·exact zGR sy l (n+e.size) (fun x hx=>h x (lA4 _ hx)) m hm
theorem zCk:∀ l:List Pl,(∀ p∈l,p.1.size≤40∧p.2.size≤40)→z0Z (z2n l)≤80*l.length
 | [],_=>lAL _
 | p::l,h=>by
  have h1:=h p (lB4 ..)
  have h2:=zCk l fun q hq=>h q (lA4 _ hq)
  have e:z2n (p::l)=p.1::p.2::z2n l:=rfl
  rw [e]
  simp only [z0Z,lBC]
  omega
theorem z6k {w:List Bt} (h:z1X w=0):GW w∧w.length≤60:=by
 unfold z1X at h
 split at h
 ·exact absurd h (by decide)
 ·rename_i h1
  split at h
  ·exact absurd h (by decide)
  ·rename_i h2
   simp only [lB2,not_or,lAE,lCZ] at h1
   obtain ⟨h1,h3⟩:=h1
   simp only [lCZ] at h2
   refine ⟨fun t ht=>?_,by omega⟩
   rw [lB1] at h2 h3
   have a:z4q t=true:=by simpa using h2 t ht
   have b:=h3 t ht
   unfold z1h at b
   unfold z4q at a
   simp only [lAS,Bool.not_eq_true',beq_eq_false_iff_ne] at a
   rw [lAE] at b
   refine ⟨a.2,fun hm=>?_,by omega⟩
   have h5:=a.1
   rw [lB1] at h5
   exact h5 32 hm (by decide)
theorem zFc:∀ {l:List Pr},zDv l=0→∀ p∈l,z1X p.a.l=0∧z1X p.b.l=0
 | [],_,p,hp=>by cases hp
 | q::l,h,p,hp=>by
  unfold zDv at h
  split at h
  ·rename_i h1
   rw [h] at h1;cases h1
  ·rename_i h1
   split at h
   ·rename_i h2
    rw [h] at h2;cases h2
   ·rename_i h2
    rcases lAV.1 hp with e | hp
    ·rw [e];exact ⟨by simpa using h1,by simpa using h2⟩
    ·exact zFc h p hp
theorem zGA {v:Ex→Int}:∀ {l:List Pl},zEh v l=0→∀ p∈l,v p.1=0∧v p.2=0
 | [],_,p,hp=>by cases hp
 | q::l,h,p,hp=>by
  unfold zEh at h
  split at h
  ·rename_i h1
   rw [h] at h1;cases h1
  ·rename_i h1
   split at h
   ·rename_i h2
    rw [h] at h2;cases h2
   ·rename_i h2
    rcases lAV.1 hp with e | hp
    ·rw [e];exact ⟨by simpa using h1,by simpa using h2⟩
    ·exact zGA h p hp
theorem z6m {e:Ex} (h:z5y e=0):e.size≤40∧e.right=true:=by
 unfold z5y at h
 split at h
 ·exact absurd h (by decide)
 ·rename_i h1
  split at h
  ·exact absurd h (by decide)
  ·rename_i h2
   simp only [lB2,not_or,lAE] at h1
   exact ⟨by omega,by simpa using h2⟩
structure RuGood (r:Ru):Prop where
 np:r.pairs.length≤24
 nl:r.places.length≤24
 ne:r.pairs≠[]
 pa:∀ p∈r.pairs,p.a.l.length≤6∧p.b.l.length≤60∧GW p.a.l∧GW p.b.l
 ex:∀ p∈r.places,(p.1.size≤40∧p.1.right=true∧p.1.odd=false)∧p.2.size≤40∧p.2.right=true∧p.2.odd=false
 kd:r.kind=0∨r.kind=1∨r.kind=2∨r.kind=3
 be:r.below=true→r.kind=2∨r.kind=3
theorem zKV {r:Ru} (h:zBz r=0):RuGood r:=by
 unfold zBz at h
 split at h
 ·exact absurd h (by decide)
 rename_i h1
 split at h
 ·exact absurd h (by decide)
 rename_i h2
 split at h
 ·rename_i h3
  rw [h] at h3;cases h3
 rename_i h3
 split at h
 ·rename_i h4
  rw [h] at h4;cases h4
 rename_i h4
 split at h
 ·exact absurd h (by decide)
 rename_i h5
 split at h
 ·exact absurd h (by decide)
 rename_i h6
 simp only [lB2,not_or,lAE] at h1
 have h3:zDv r.pairs=0:=by simpa using h3
 have h4:zEh z5y r.places=0:=by simpa using h4
 simp only [lCZ] at h2 h5 h6
 rw [lB1] at h2 h6
 unfold zEK at h5
 simp only [lC8,lAC,Bool.and_eq_false_iff,beq_eq_false_iff_ne] at h5
 obtain ⟨⟨⟨⟨k1,k2⟩,k3⟩,k4⟩,_⟩:=h5
 refine ⟨by omega,by omega,fun e=>by rw [e] at k3;exact k3 rfl,fun p hp=>?_,fun p hp=>?_,by omega,fun hb=>?_⟩
 ·have a:=h2 p hp
  unfold z6Y at a
  simp only [lB2,not_or,lAE] at a
  obtain ⟨b,c⟩:=zFc h3 p hp
  exact ⟨by omega,by omega,(z6k b).1,(z6k c).1⟩
 ·obtain ⟨a,b⟩:=zGA h4 p hp
  have c:=h6 p hp
  unfold z7f at c
  simp only [lCZ,lC8] at c
  exact ⟨⟨(z6m a).1,(z6m a).2,c.1⟩,(z6m b).1,(z6m b).2,c.2⟩
 ·rcases k4 with k4 | k4
  ·rw [hb] at k4;cases k4
  ·omega
theorem zQk {x y:List Bt} (h:zCH [x,y]=0):z1X x=0∧z1X y=0:=by
 unfold zCH at h
 split at h
 ·rename_i h1
  rw [h] at h1;cases h1
 ·rename_i h1
  unfold zCH at h
  split at h
  ·rename_i h2
   rw [h] at h2;cases h2
  ·rename_i h2
   exact ⟨by simpa using h1,by simpa using h2⟩
theorem zKy:z6A.right=true:=by decide
theorem zPe {l:List Bt} (h:zLh l=0):l.length≤40:=by
 unfold zLh at h
 split at h
 ·exact absurd h (by decide)
 ·rename_i h1
  simp only [lB2,not_or,lAE] at h1
  omega
theorem zEW {r:Ru} {sg x y:List Bt} (hr:okR r) (h:zLk r sg [x,y]=0):RuGood r∧HoldOk sg r x y∧HoldOkR r x y∧OverR sg r:=by
 unfold zLk at h
 split at h
 ·rename_i h1
  rw [h] at h1;cases h1
 rename_i h1
 split at h
 ·rename_i h2
  rw [h] at h2;cases h2
 rename_i h2
 split at h
 ·rename_i h3
  rw [h] at h3;cases h3
 rename_i h3
 split at h
 ·exact absurd h (by decide)
 rename_i h4
 have h1:zBz r=0:=by simpa using h1
 have h2:zLh sg=0:=by simpa using h2
 have h3:zCH [x,y]=0:=by simpa using h3
 simp only [lCZ] at h4
 rw [lB1] at h4
 have hin:∀ t∈z7y r++x,t∈sg:=fun t ht=>by
  have:=h4 t ht
  unfold z7G at this
  simpa using this
 have g:=zKV h1
 obtain ⟨hx,hy⟩:=zQk h3
 obtain ⟨gx,lx⟩:=z6k hx
 obtain ⟨gy,ly⟩:=z6k hy
 have hsl:=zPe h2
 have hpa:∀ p∈r.pairs,(∀ t∈p.a.l,t∈sg)∧∀ t∈p.b.l,t∈sg:=fun p hp=>by
  have:∀ t∈p.a.l++p.b.l,t∈sg:=fun t ht=>hin t (lCK _ (lCK _ (lDA.2 ⟨p,hp,ht⟩)))
  exact ⟨fun t ht=>this t (lCK _ ht),fun t ht=>this t (lCE _ ht)⟩
 have hpl:∀ p∈r.places,(∀ t∈z1d p.1,t∈sg)∧∀ t∈z1d p.2,t∈sg:=fun p hp=>by
  have:∀ t∈z1d p.1++z1d p.2,t∈sg:=fun t ht=>hin t (lCK _ (lCE _ (lDA.2 ⟨p,hp,ht⟩)))
  exact ⟨fun t ht=>this t (lCK _ ht),fun t ht=>this t (lCE _ ht)⟩
 have hP:∀ p∈z0a r,(p.1.size≤40∧p.1.right=true∧p.1.odd=false∧okE p.1∧∀ t∈z1d p.1,t∈sg)∧p.2.size≤40∧p.2.right=true∧p.2.odd=false∧okE p.2∧∀ t∈z1d p.2,t∈sg:=fun p hp=>by
  unfold z0a at hp
  split at hp
  ·rw [lAR] at hp
   subst hp
   have hn:z6A.size≤40∧z6A.right=true∧z6A.odd=false∧okE z6A∧∀ t∈z1d z6A,t∈sg:=⟨by decide,zKy,by decide,by unfold okE;decide,fun t ht=>by
    have:z1d z6A=[]:=rfl
    rw [this] at ht;cases ht⟩
   exact ⟨hn,hn⟩
  ·obtain ⟨⟨a1,a2,a3⟩,b1,b2,b3⟩:=g.ex p hp
   obtain ⟨o1,o2⟩:=hr.ls p hp
   obtain ⟨s1,s2⟩:=hpl p hp
   exact ⟨⟨a1,a2,a3,o1,s1⟩,b1,b2,b3,o2,s2⟩
 have hPl:(z0a r).length≤24:=by
  unfold z0a
  split
  ·simp
  ·exact g.nl
 have hasc:=zJC h2
 refine ⟨g,⟨⟨g.ne,by have:=g.np;omega,fun p hp=>?_,by have:=g.nl;omega,?_,fun p hp=>?_,?_⟩,g.kd,fun t ht=>hin t (lCE _ ht),lx,ly,hasc,by omega⟩,⟨⟨fun p hp=>hr.ls p hp,fun p hp=>?_,by have:=g.nl;omega,by have:=g.np;omega,fun p hp=>?_⟩,gx,gy,lx,ly⟩,⟨by omega,hpa,hpl⟩⟩
 ·obtain ⟨a,b,_,_⟩:=g.pa p hp
  exact ⟨by omega,by omega,hpa p hp⟩
 ·have:=zCk (z0a r) fun p hp=>⟨(hP p hp).1.1,(hP p hp).2.1⟩
  omega
 ·obtain ⟨⟨_,_,_,o1,s1⟩,_,_,_,o2,s2⟩:=hP p hp
  exact ⟨o1,o2,s1,s2⟩
 ·refine zGR (syW sg) _ 0 fun e he=>?_
  unfold z2n at he
  obtain ⟨p,hp,he⟩:=lDA.1 he
  obtain ⟨⟨a1,a2,a3,_⟩,b1,b2,b3,_⟩:=hP p hp
  simp only [lAV,lA7,or_false] at he
  rcases he with rfl | rfl
  ·exact ⟨a2,a3,by omega⟩
  ·exact ⟨b2,b3,by omega⟩
 ·obtain ⟨⟨a1,a2,a3⟩,b1,b2,b3⟩:=g.ex p hp
  exact ⟨fun z hz=>by
   obtain ⟨c,d⟩:=zAk p.1 a2 a3 z hz
   exact ⟨c,by omega⟩,fun z hz=>by
   obtain ⟨c,d⟩:=zAk p.2 b2 b3 z hz
   exact ⟨c,by omega⟩,by omega,by omega⟩
 ·obtain ⟨a,b,_,_⟩:=g.pa p hp
  exact ⟨by omega,by omega⟩
theorem zLH {r:Ru} {sg x y:List Bt} (hr:okR r):zBY r sg x y=z9X r sg x y:=by
 unfold zBY z9X
 rw [←zKB]
 cases h:(zLk r sg [x,y] != 0)
 ·simp only [lAX,if_false]
  obtain ⟨g,hh,_,ho⟩:=zEW (r:=r) (sg:=sg) (x:=x) (y:=y) hr (by simpa using h)
  cases hy:y.all fun t=>decide (t∈sg)
  ·simp only [lEH,if_true]
   cases hp:zHN r x y
   ·rfl
   ·have h2:=zMm ho hh.xi hp
    have:(y.all fun t=>decide (t∈sg))=true:=lAZ.2 fun t ht=>by simpa using h2 t ht
    rw [this] at hy;cases hy
  ·simp only [lDL,lAX,if_false]
   rw [zMk ho hh.xi (fun t ht=>by
    have:=lAZ.1 hy t ht
    simpa using this) g.kd g.be]
 ·rfl
theorem zUP:∀ (w:List Bt) (n:Nat),n≤nw n w
 | [],n=>lAL _
 | s::w,n=>by
  simp only [nw]
  split
  ·exact lBK (Nat.le_add_right _ _) (zUP w _)
  ·exact lAL _
theorem zMy (n:Nat) (w:List Bt):n+w.length≤nww n w:=zUP _ _
theorem zNB:∀ (l:List Pr) (n:Nat),nps n l≤24000→n+(zAR l).length≤nps n l∧∀ p∈l,p.a.l.length+p.b.l.length≤24000
 | [],n,_=>⟨lAL _,fun p hp=>by cases hp⟩
 | p::l,n,h=>by
  simp only [nps] at h ⊢
  have hn:n≤24000:=by
   split at h
   ·assumption
   ·exact h
  rw [if_pos hn] at h ⊢
  obtain ⟨h1,h2⟩:=zNB l _ h
  have h3:=zMy 0 p.a.l
  have h4:=zMy (nww 0 p.a.l) p.b.l
  have e:(zAR (p::l)).length=p.a.l.length+p.b.l.length+(zAR l).length:=by
   simp only [zAR,lCA,lAH]
  refine ⟨by omega,fun q hq=>?_⟩
  rcases lAV.1 hq with rfl | hq
  ·omega
  ·exact h2 q hq
theorem zAX:∀ (ws:List (List Bt)) (n:Nat),ws.foldl nww n≤24000→n≤24000∧∀ w∈ws,w.length≤24000
 | [],n,h=>⟨h,fun w hw=>by cases hw⟩
 | v::ws,n,h=>by
  simp only [lDU] at h
  obtain ⟨h1,h2⟩:=zAX ws _ h
  have h3:=zMy n v
  refine ⟨by omega,fun w hw=>?_⟩
  rcases lAV.1 hw with rfl | hw
  ·omega
  ·exact h2 w hw
mutual
theorem zHU:∀ e:Ex,nf e≤24000→(z1d e).length≤nf e
 | .mk op s nl l,h=>by
  simp only [nf] at h ⊢
  have:=zJg l (1+s.length) h
  simp only [z1d,lAH]
  have h2:(if (op==0)=true then [s] else []).length≤1:=by split<;>simp
  omega
theorem zJg:∀ (l:List Ex) (n:Nat),nfs n l≤24000→n+(z3Z l).length≤nfs n l
 | [],n,_=>by simp [z3Z,nfs]
 | x::l,n,h=>by
  simp only [nfs] at h ⊢
  have hn:n≤24000:=by
   split at h
   ·assumption
   ·exact h
  rw [if_pos hn] at h ⊢
  have h1:=zJg l (n+nf x) h
  have h2:=zHU x (by omega)
  simp only [z3Z,lAH]
  omega
end
theorem zND:∀ (l:List Pl) (n:Nat),nls n l≤24000→n+(zBP l).length≤nls n l
 | [],n,_=>by simp [zBP,nls]
 | p::l,n,h=>by
  simp only [nls] at h ⊢
  have hn:n≤24000:=by
   split at h
   ·assumption
   ·exact h
  rw [if_pos hn] at h ⊢
  have h1:=zND l _ h
  have h2:=zHU p.1 (by omega)
  have h3:=zHU p.2 (by omega)
  have e:(zBP (p::l)).length=(z1d p.1).length+(z1d p.2).length+(zBP l).length:=by
   simp only [zBP,lCA,lAH]
  omega
structure AskGood (r:Ru) (sg x y:List Bt):Prop where
 r2:okR2 r
 oc:(z7y r).length≤1000000
 sn:sg.length≤1000000
 xn:x.length≤1000000
 yn:y.length≤1000000
theorem zRE {r:Ru} {sg x y:List Bt} (hr:okR r) (ho:zKt r=false) (hw:[sg,x,y].foldl nww 0≤24000):AskGood r sg x y:=by
 unfold zKt at ho
 rw [lAC] at ho
 have h0:nls (nps (r.pairs.length+r.places.length) r.pairs) r.places≤24000:=by omega
 have h1:=zND _ _ h0
 obtain ⟨h2,h3⟩:=zNB r.pairs (r.pairs.length+r.places.length) (by omega)
 obtain ⟨_,h4⟩:=zAX _ 0 hw
 have hs:=h4 sg (by simp)
 have hx:=h4 x (by simp)
 have hy:=h4 y (by simp)
 refine ⟨⟨hr,fun p hp=>by have:=h3 p hp;omega⟩,?_,by omega,by omega,by omega⟩
 unfold z7y
 rw [lAH]
 omega
end Go.Ab
