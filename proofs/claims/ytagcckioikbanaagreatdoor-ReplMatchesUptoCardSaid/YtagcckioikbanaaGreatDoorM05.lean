/- Part 5 of the proof. -/
import Derived.WideKeyRuns
import Derived.MapKept
import Derived.Test.YtagcckioikbanaaGreatDoorM04
set_option linter.unusedVariables false
set_option linter.unusedSimpArgs false
namespace Go.Ab
variable {P:Program} {φ:Phi} {σ:Sig} {H:z0B} {w:World}
inductive NOp where
 | makeMap (hint:Bool)
 | update (k:KT)
 | lookup (k:KT) (zero:AV) (ok:Bool)
 | lenMap
 | delete (k:KT)
 | clearMap
 | range
 | entry
def z8g (k:KT) (v:AV):Bool :=
 if k.g then match v with
  | .agg a=>a.length==k.l.length
  | _=>false
 else true
abbrev z3t:=List (AV × AV × Nat)
def z3B (k:KT) (x:AV):z3t→Nat→Option (Option Nat)
 | [],_=>some none
 | e::es,i=>match z5Y k x e.1 with
  | some true=>some (some i)
  | some false=>z3B k x es (i+1)
  | none=>none
def z3j (H:z0B) (id:Nat):Option (z3t × Nat) :=
 match H[id]? with
 | some (.map es clock)=>some (es,clock)
 | _=>none
def z7f (es:z3t) (i:Nat) (key v:AV):z3t:=es.modify i fun e=>(key,v,e.2.2)
def zBN (zero:AV) (ok:Bool):Option AV→AV
 | some v=>if ok then .tuple [v,.bool true] else v
 | none=>if ok then .tuple [zero,.bool false] else zero
def z8y (H:z0B) (id:Nat):Option (Option Nat × Nat × List Nat × Nat) :=
 match H[id]? with
 | some (.iter m since seen last)=>some (m,since,seen,last)
 | _=>none
def z9X (m:NOp) (args:List AV) (H:z0B) (r:Nat):Option (AV × z0B) :=
 match m,args with
 | .makeMap false,[]=>some (.map r,put H r (.map [] 0))
 | .makeMap true,[.int _ _]=>some (.map r,put H r (.map [] 0))
 | .update k,[.map id,key,v]=>match z3j H id with
  | some (es,clock)=>if z8g k key then match z3B k key es 0 with
    | some (some i)=>some (.top,H.set id (.map (z7f es i key v) clock))
    | some none=>some (.top,H.set id (.map (es++[(key,v,clock)]) (clock+1)))
    | none=>none
   else none
  | none=>none
 | .lookup k zero ok,[.nilmap,key]=>if z8g k key then some (zBN zero ok none,H) else none
 | .lookup k zero ok,[.map id,key]=>match z3j H id with
  | some (es,_)=>if z8g k key then match z3B k key es 0 with
    | some (some i)=>some (zBN zero ok (some (es.getD i (.top,.top,0)).2.1),H)
    | some none=>some (zBN zero ok none,H)
    | none=>none
   else none
  | none=>none
 | .lenMap,[.nilmap]=>some (.int .i64 0,H)
 | .lenMap,[.map id]=>match z3j H id with
  | some (es,_)=>some (.int .i64 es.length,H)
  | none=>none
 | .delete k,[.nilmap,key]=>if z8g k key then some (.top,H) else none
 | .delete k,[.map id,key]=>match z3j H id with
  | some (es,clock)=>if z8g k key then match z3B k key es 0 with
    | some (some i)=>some (.top,H.set id (.map (es.eraseIdx i) clock))
    | some none=>some (.top,H)
    | none=>none
   else none
  | none=>none
 | .clearMap,[.nilmap]=>some (.top,H)
 | .clearMap,[.map id]=>match z3j H id with
  | some (_,clock)=>some (.top,H.set id (.map [] clock))
  | none=>none
 | .range,[.nilmap]=>some (.ptr r 0,put H r (.iter none 0 [] 0))
 | .range,[.map id]=>match z3j H id with
  | some (_,clock)=>some (.ptr r 0,put H r (.iter (some id) clock [] clock))
  | none=>none
 | .entry,[.ptr id 0]=>match z8y H id with
  | some (some mid,_,seen,last)=>match z3j H mid,seen.getLast? with
   | some (es,clock),some stamp=>if clock=last then match es.find? (fun e=>e.2.2==stamp) with
     | some e=>some (.tuple [e.1,e.2.1],H)
     | none=>none
    else none
   | _,_=>none
  | _=>none
 | _,_=>none
def zGN (args:List AV) (H:z0B):Option (List (AV × z0B)) :=
 match args with
 | [.ptr id 0]=>match z8y H id with
  | some (none,_,_,_)=>some [(.tuple [.bool false],H)]
  | some (some mid,since,seen,last)=>match z3j H mid with
   | some (es,clock) =>
    if !seen.isEmpty && !es.isEmpty&&es.all (fun e=>decide (e.2.2≥last)) then none else
    let left:=es.filter fun e=>!seen.contains e.2.2
    let old:=left.filter fun e=>decide (e.2.2<since)
    let new:=left.filter fun e=>decide (e.2.2≥since)
    some ((if old.isEmpty then [(.tuple [.bool false],H)] else []) ++
     (old++new).map fun e=>(.tuple [.bool true,e.1,e.2.1],H.set id (.iter (some mid) since (seen++[e.2.2]) clock)))
   | none=>none
  | none=>none
 | _=>none
def zNa (P:Program) (t:TypeId):Option AV:=((P.info? t).bind (·.zero)).bind zNk
theorem zLV {t:TypeId} {z:AV} (h:zNa P t=some z):∃ c,(zeroValue t).run P w=.ok c w∧VRel φ σ z c:=by
 unfold zNa at h
 cases hi:P.info? t with
 | none=>simp [hi] at h
 | some i =>
  cases hz:i.zero with
  | none=>simp [hi,hz] at h
  | some v =>
   simp only [hi,hz,Option.bind_some] at h
   exact ⟨v,by simp [zeroValue,typeInfo,hi,hz],z9N h⟩
def zJM (P:Program) (w:World) (m:Nat):Prop:=∀ t k,z4P P m t=some k→∀ em φ σ D,m≤D→∀ x c,VRel φ σ x c→z8g k x=true→(Instr.checkKey em D t c).run P w=.ok () w
theorem zRR {k:KT} {sh:Option Nat} (hc1:sh=if k.g then some k.l.length else none) (hc2:k.g=false→k.l.length=1) {x:List AV} {off:Nat} (h:off+k.l.length≤x.length) :
  ∃ u,z3L sh x off=some u∧z8g k u=true:=by
 obtain ⟨g,l⟩:=k
 cases g with
 | true =>
  simp only [if_true] at hc1 h
  subst hc1
  refine ⟨_,by simp only [z3L];rw [if_pos h],?_⟩
  simp [z8g];omega
 | false =>
  have hl1:=hc2 rfl
  simp only at hl1 h
  subst hc1
  have e1:x[off]? =some (x[off]'(by omega)):=lAG (by omega)
  exact ⟨_,by simp [z3L,e1];rfl,by simp [z8g]⟩
theorem z6B {m:Nat} (ih:zJM P w m) (em:Bool) {xs:Array Value} {x:List AV} (hx:z8N φ σ x xs) (D:Nat) (hD:m≤D):∀ (fs:List Field) (off:Nat) (l:List ScK),
  zGV P (z4P P m) fs off=some l→off+l.length≤x.length →
  (forIn (m:=Sem) fs PUnit.unit fun f _=>if f.name ≠ "_" then (do
   let a ← part f.type xs f.offset
   Instr.checkKey em D f.type a
   pure (ForInStep.yield PUnit.unit)) else pure (ForInStep.yield PUnit.unit)).run P w=.ok PUnit.unit w
 | [],off,l,hl,h=>by simp
 | f::fs,off,l,hl,h=>by
  simp only [zGV] at hl
  split at hl
  ·cases hl
  ·rename_i hno
   simp only [not_or,ne_eq,Decidable.not_not] at hno
   obtain ⟨hname,hoff⟩:=hno
   split at hl
   ·rename_i k sh hk hsh
    by_cases hcond:sh=(if k.g=true then some k.l.length else none)∧(k.g=false→k.l.length=1)∧0<k.l.length
    ·rw [if_pos hcond] at hl
     obtain ⟨hc1,hc2,hc3⟩:=hcond
     split at hl
     ·rename_i l' hl'
      injection hl with hl;subst hl
      simp only [lAH] at h
      obtain ⟨u,hu1,hu2⟩:=zRR (x:=x) (off:=off) hc1 hc2 (by omega)
      obtain ⟨c,c1,c2⟩:=z7p (P:=P) (w:=w) hsh hu1 hx.1 hx.2
      have he:=ih f.type k hk em φ σ D hD u c c2 hu2
      have ih2:=z6B ih em hx D hD fs (off+k.l.length) l' hl' (by omega)
      rw [←hoff] at c1
      simp only [List.forIn_cons,Sem.run_bind,ne_eq,hname,not_false_eq_true,if_true,c1,Result.andThen_ok,he,Sem.run_pure]
      exact ih2
     ·cases hl
    ·rw [if_neg hcond] at hl;cases hl
   ·cases hl
theorem z6Y:∀ m,zJM P w m
 | 0=>by intro t k h;simp [z4P] at h
 | m+1=>by
  intro t k hk em φ σ D hD x c hx h
  obtain ⟨D,rfl⟩:∃ D',D=D'+1:=⟨D-1,by omega⟩
  simp only [z4P] at hk
  split at hk
  ·rename_i s hs
   injection hk with hk;subst hk
   unfold scK at hs
   split at hs<;>first | (cases hs;done) | (rename_i hu;simp [Instr.checkKey,run_underlying hu])
  ·split at hk
   ·rename_i fs hu
    split at hk
    ·cases hk
    ·split at hk
     ·rename_i l hl
      injection hk with hk;subst hk
      simp only [z8g,if_true] at h
      split at h
      ·rename_i a
       cases hx with
       | agg _ xs hl1 r1 =>
        rw [Instr.checkKey]
        simp only [Sem.run_bind,run_underlying hu,Result.andThen_ok]
        rw [←Array.forIn_toList]
        have:=z6B (z6Y m) em ⟨hl1,r1⟩ D (by omega) fs.toList 0 l hl (by simp at h;omega)
        rw [this];rfl
      ·cases h
     ·cases hk
   ·cases hk
theorem zMk {t:TypeId} {k:KT} {x y:AV} {c d:Value} {b:Bool} (hk:z4P P 9 t=some k) (hx:VRel φ σ x c) (hy:VRel φ σ y d) (h:z5Y k x y=some b) :
  (Op.equal t c d).run P w=.ok b w:=zXF 9 t k hk φ σ 10000 (by omega) x y c d b hx hy h
def z1U (φ:Phi) (σ:Sig) (es:z3t) (ces:List MapEntry):Prop :=
 es.length=ces.length∧∀ i (h:i<es.length) (h':i<ces.length),VRel φ σ (es[i]).1 (ces[i]).key∧VRel φ σ (es[i]).2.1 (ces[i]).val∧(es[i]).2.2=(ces[i]).born
theorem z1U.tail {e:AV × AV × Nat} {es:z3t} {c:MapEntry} {ces:List MapEntry} (h:z1U φ σ (e::es) (c::ces)) :
  (VRel φ σ e.1 c.key∧VRel φ σ e.2.1 c.val∧e.2.2=c.born)∧z1U φ σ es ces :=
 ⟨h.2 0 (by simp) (by simp),by have:=h.1;simpa using this,fun i hi hi'=>h.2 (i+1) (by simpa using hi) (by simpa using hi')⟩
theorem z6p {t:TypeId} {k:KT} {x:AV} {c:Value} (hk:z4P P 9 t=some k) (hx:VRel φ σ x c):∀ {es:z3t} {ces:List MapEntry} {i:Nat} {o:Option Nat},z1U φ σ es ces→z3B k x es i=some o →
  (o=none∧(Instr.findAsking t c ces i).run P w=.ok none w)∨(∃ j,∃ hj:j<ces.length,o=some (i+j)∧(Instr.findAsking t c ces i).run P w=.ok (some (i+j,ces[j].val)) w)
 | [],ces,i,o,he,h=>by
  simp only [z3B] at h;injection h with h;subst h
  cases ces with
  | nil=>exact .inl ⟨rfl,by simp [Instr.findAsking]⟩
  | cons=>have:=he.1;simp at this
 | e::es,[],i,o,he,h=>by have:=he.1;simp at this
 | e::es,c'::ces,i,o,he,h=>by
  obtain ⟨⟨h1,h2,h3⟩,ht⟩:=he.tail
  simp only [z3B] at h
  split at h
  ·rename_i hq
   injection h with h;subst h
   exact .inr ⟨0,by simp,rfl,by simp [Instr.findAsking,zMk (w:=w) hk hx h1 hq]⟩
  ·rename_i hq
   rcases z6p hk hx ht h with ⟨e1,e2⟩ | ⟨j,hj,e1,e2⟩
   ·exact .inl ⟨e1,by simp [Instr.findAsking,zMk (w:=w) hk hx h1 hq,e2]⟩
   ·refine .inr ⟨j+1,by simpa using hj,by rw [e1];congr 1;omega,?_⟩
    simp only [Instr.findAsking,zMk (w:=w) hk hx h1 hq,Sem.run_bind,Result.andThen_ok,lAV,if_false,e2,List.getElem_cons_succ]
    rw [show i+1+j=i+(j+1) by omega]
  ·cases h
theorem zCp {t:TypeId} {d:TypeDesc} {s:ScK} {x y:AV} {c c':Value} {b:Bool} (hu:P.underlying t=some d) (hs:scK P t=some s) (hx:VRel φ σ x c) (hy:VRel φ σ y c') (h:zPD s x y=some b) :
  Instr.sameNow d c c'=some b:=by
 unfold scK at hs
 rw [hu] at hs
 unfold zPD at h
 split at h
 ·split at h
  ·rename_i e;subst e
   injection h with h;subst h
   cases hx;cases hy
   split at hs<;>first | (cases hs;done) | (rename_i hd;injection hd with hd;subst hd;first | (cases hs;done) | simp [Instr.sameNow])
  ·cases h
 ·injection h with h;subst h
  cases hx with
  | str _ a ha=>cases hy with
   | str _ b' hb =>
    split at hs<;>first | (cases hs;done) | (rename_i hd;injection hd with hd;subst hd;first | (cases hs;done) | skip)
    simp only [Instr.sameNow,Option.some.injEq]
    rw [lB6,MapKept.bytes_beq,lCY,←ha,←hb]
    constructor
    ·rintro rfl;rfl
    ·intro e
     obtain ⟨⟨a⟩⟩:=a;obtain ⟨⟨b'⟩⟩:=b'
     simp only at e;rw [e]
 ·injection h with h;subst h
  cases hx;cases hy
  split at hs<;>first | (cases hs;done) | (rename_i hd;injection hd with hd;subst hd;first | (cases hs;done) | simp [Instr.sameNow])
 ·cases h
theorem zAq {t:TypeId} {d:TypeDesc} {s:ScK} {x:AV} {c:Value} (hu:P.underlying t=some d) (hs:scK P t=some s) (hx:VRel φ σ x c):∀ {es:z3t} {ces:List MapEntry} {i:Nat} {o:Option Nat},z1U φ σ es ces→z3B ⟨false,[s]⟩ x es i=some o →
  (o=none∧Instr.findNow d c ces i=some none)∨(∃ j,∃ hj:j<ces.length,o=some (i+j)∧Instr.findNow d c ces i=some (some (i+j,ces[j].val)))
 | [],ces,i,o,he,h=>by
  simp only [z3B] at h;injection h with h;subst h
  cases ces with
  | nil=>exact .inl ⟨rfl,by simp [Instr.findNow]⟩
  | cons=>have:=he.1;simp at this
 | e::es,[],i,o,he,h=>by have:=he.1;simp at this
 | e::es,c'::ces,i,o,he,h=>by
  obtain ⟨⟨h1,h2,h3⟩,ht⟩:=he.tail
  simp only [z3B,z5Y,lAV,if_false] at h
  split at h
  ·rename_i hq
   injection h with h;subst h
   exact .inr ⟨0,by simp,rfl,by simp [Instr.findNow,zCp hu hs hx h1 hq]⟩
  ·rename_i hq
   rcases zAq hu hs hx ht h with ⟨e1,e2⟩ | ⟨j,hj,e1,e2⟩
   ·exact .inl ⟨e1,by simp [Instr.findNow,zCp hu hs hx h1 hq,e2]⟩
   ·refine .inr ⟨j+1,by simpa using hj,by rw [e1];congr 1;omega,?_⟩
    simp only [Instr.findNow,zCp hu hs hx h1 hq,e2,List.getElem_cons_succ]
    rw [show i+1+j=i+(j+1) by omega]
  ·cases h
theorem z2b {t:TypeId} {k:KT} {x:AV} {c:Value} (hk:z4P P 9 t=some k) (hx:VRel φ σ x c) {es:z3t} {ces:List MapEntry} {o:Option Nat} (he:z1U φ σ es ces) (h:z3B k x es 0=some o) :
  (o=none∧(Instr.findKey t c ces).run P w=.ok none w)∨(∃ j,∃ hj:j<ces.length,o=some j∧(Instr.findKey t c ces).run P w=.ok (some (j,ces[j].val)) w):=by
 have hk':=hk
 simp only [z4P] at hk
 split at hk
 ·rename_i s hs
  injection hk with hk;subst hk
  have ⟨d,hu⟩:∃ d,P.underlying t=some d:=by
   unfold scK at hs
   cases hq:P.underlying t with
   | none=>simp [hq] at hs
   | some d=>exact ⟨d,rfl⟩
  rcases zAq hu hs hx he h with ⟨e1,e2⟩ | ⟨j,hj,e1,e2⟩
  ·exact .inl ⟨e1,by simp [Instr.findKey,run_underlying hu,e2]⟩
  ·simp only [lBN] at e1 e2
   exact .inr ⟨j,hj,e1,by simp [Instr.findKey,run_underlying hu,e2]⟩
 ·split at hk
  ·rename_i fs hu
   rw [run_findKey_eq w (by rw [hu])]
   rcases z6p (w:=w) hk' hx he h with ⟨e1,e2⟩ | ⟨j,hj,e1,e2⟩
   ·exact .inl ⟨e1,e2⟩
   ·simp only [lBN] at e1 e2
    exact .inr ⟨j,hj,e1,e2⟩
  ·cases hk
theorem zDc {k:KT} {x:AV}:∀ {es:z3t} {i j:Nat},z3B k x es i=some (some j)→i≤j∧j<i+es.length∧∀ h:j-i<es.length,z5Y k x (es[j-i]).1=some true
 | [],i,j,h=>by simp [z3B] at h
 | e::es,i,j,h=>by
  simp only [z3B] at h
  split at h
  ·rename_i hq
   injection h with h;injection h with h;subst h
   exact ⟨lAL _,by simp,fun _=>by simpa using hq⟩
  ·obtain ⟨a,b,c⟩:=zDc h
   refine ⟨by omega,by simp;omega,fun hh=>?_⟩
   have e1:j-i=(j-(i+1))+1:=by omega
   have:=c (by simp at hh;omega)
   simp only [e1,List.getElem_cons_succ]
   exact this
  ·cases h
theorem zEH {s:ScK} {x y:AV} {c d:Value} (hx:VRel φ σ x c) (hy:VRel φ σ y d) (h:zPD s x y=some true) (n:Nat):Instr.sameBits n d c=true:=by
 unfold zPD at h
 split at h
 ·split at h
  ·rename_i e;subst e
   injection h with h
   cases hx;cases hy
   cases n<;>simp [Instr.sameBits]<;>simpa using (by simpa using h:_=_).symm
  ·cases h
 ·injection h with h
  cases hx with
  | str _ a ha=>cases hy with
   | str _ b hb =>
    have:b=a:=by
     have e:a.data.toList=b.data.toList:=by rw [ha,hb];simpa using h
     obtain ⟨⟨a⟩⟩:=a;obtain ⟨⟨b⟩⟩:=b
     simp only at e;rw [e]
    subst this
    cases n<;>simp [Instr.sameBits,MapKept.bytes_beq]
 ·injection h with h
  cases hx;cases hy
  cases n<;>simp [Instr.sameBits]<;>simpa using (by simpa using h:_=_).symm
 ·cases h
theorem zCN (n:Nat):∀ {l:List ScK} {x y:List AV} {xs ys:List Value},z1F l x y=some true→x.length=l.length→y.length=l.length→xs.length=l.length→ys.length=l.length →
  (∀ i,VRel φ σ (x.getD i .top) (xs.getD i undef))→(∀ i,VRel φ σ (y.getD i .top) (ys.getD i undef))→((ys.zip xs).all fun (a,b)=>Instr.sameBits n a b)=true
 | [],x,y,xs,ys,_,_,_,h3,h4,_,_=>by
  cases xs<;>simp at h3
  simp
 | s::l,[],y,xs,ys,_,h,_,_,_,_,_=>by simp at h
 | s::l,x::x',[],xs,ys,_,_,h,_,_,_,_=>by simp at h
 | s::l,x::x',y::y',[],ys,_,_,_,h,_,_,_=>by simp at h
 | s::l,x::x',y::y',c::xs,[],_,_,_,_,h,_,_=>by simp at h
 | s::l,x::x',y::y',c::xs,d::ys,h,h1,h2,h3,h4,r1,r2=>by
  simp only [z1F] at h
  split at h
  ·rename_i p q hp hq
   injection h with h
   simp only [lAQ] at h
   obtain ⟨rfl,rfl⟩:=h
   have a1:VRel φ σ x c:=by simpa using r1 0
   have a2:VRel φ σ y d:=by simpa using r2 0
   simp only [List.zip_cons_cons,lB4,zEH a1 a2 hp n,lCT]
   exact zCN n hq (by simpa using h1) (by simpa using h2) (by simpa using h3) (by simpa using h4) (fun i=>by simpa using r1 (i+1)) (fun i=>by simpa using r2 (i+1))
  ·cases h
theorem zJx {k:KT} {x y:AV} {c d:Value} (hx:VRel φ σ x c) (hy:VRel φ σ y d) (h:z5Y k x y=some true) (n:Nat):Instr.sameBits (n+1) d c=true:=by
 obtain ⟨g,l⟩:=k
 cases g with
 | true =>
  simp only [z5Y,if_true] at h
  split at h
  ·rename_i a b
   split at h
   ·rename_i hl
    cases hx with
    | agg _ xs l1 r1=>cases hy with
     | agg _ ys l2 r2 =>
      simp only [Instr.sameBits,lAQ,lCY]
      refine ⟨by omega,?_⟩
      exact zCN n h hl.1 hl.2 (by simp;omega) (by simp;omega) (fun i=>by rw [z1S];exact r1 i) (fun i=>by rw [z1S];exact r2 i)
   ·cases h
  ·cases h
 | false =>
  simp only [z5Y,lAV,if_false] at h
  split at h
  ·exact zEH hx hy h _
  ·cases h
theorem zKy {k:KT} {x y:AV} {c d:Value} (hx:VRel φ σ x c) (hy:VRel φ σ y d) (h:z5Y k x y=some true):(Instr.keyThatStays d c).run P w=.ok c w:=by
 simp [Instr.keyThatStays,zJx hx hy h 9999]
end Go.Ab
