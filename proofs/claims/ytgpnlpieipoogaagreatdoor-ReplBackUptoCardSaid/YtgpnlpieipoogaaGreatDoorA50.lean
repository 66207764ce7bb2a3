/- Part 50 of the proof. -/
import Derived.WalkKit
import Derived.BigCall
import Derived.Handy
import Derived.Test.YtgpnlpieipoogaaGreatDoorA20
import Derived.Test.YtgpnlpieipoogaaGreatDoorA26
import Derived.Test.YtgpnlpieipoogaaGreatDoorA34
import Derived.Test.YtgpnlpieipoogaaGreatDoorA49
set_option linter.unusedVariables false
set_option linter.unusedSimpArgs false
namespace Go.Ab
open Go Go.RowKit
open Go.Proofs
theorem z5P {α:Type} {l:List α} {j:Nat} {d:α} (h:j<l.length):l.getD j d=l[j]:=by
 rw [List.getD_eq_getElem?_getD,List.getElem?_eq_getElem h];rfl
def lstr (l:List ByteArray):List Bt:=l.map fun b=>b.data.toList
theorem lstr_get {l:List ByteArray} {k:Nat} (h:k<l.length):(lstr l)[k]? =some (l[k].data.toList):=by
 unfold lstr;rw [List.getElem?_map,List.getElem?_eq_getElem h];rfl
def tx30 (t:Bt):Bt × Int:=if decide ((t.length:Int)>400) then ([],3) else (t,0)
set_option maxHeartbeats 2000000 in
set_option maxRecDepth 1000000 in
theorem walk30 (bk o cap:Nat) (strs:List ByteArray) (w:World) (hb:bk<w.heap.size)
  (hc:∀ j,j<strs.length→w.cell? ⟨bk,o+j,none⟩=some (.string (strs.getD j ⟨#[]⟩)))
  (hn:strs.length≤1000) (hs:∀ j,j<strs.length→(strs.getD j ⟨#[]⟩).size≤1000) (st:ByteArray) (q:Int) (hq:Hide (st=baOf (tx30 (wtext (lstr strs))).1∧q=(tx30 (wtext (lstr strs))).2)) (hl:Hide (∀ k,(wtext ((lstr strs).take k)).length≤1000000))
  (h38:Calls Tryz.prog 27 #[.slice (some ⟨bk,o,none⟩) strs.length cap] w fun e w'=>e=.returned (.int .i64 0)∧Below w.heap.size w w') :
  Calls Tryz.prog 13 #[.slice (some ⟨bk,o,none⟩) strs.length cap] w fun e w' =>
   e=.returned (.tuple #[.string st,.int .i64 q])∧Below w.heap.size w w':=by
 go_enter Tryz.func13,Tryz.ntmps13
 go_wp2_with (go_at_call 27;refine h38.mono ?_)
 rintro e W1 ⟨rfl,b1⟩
 have h0:Lib.IsBuilder 79 5 W1.heap.size W1.heap.size [] (W1.alloc (.cells #[.pointer none,.slice none 0 0] 79)):=Lib.fresh_isBuilder 79 5 W1
 go_wp2
 go_loopw [15] (fun i wr=>∃ k:Nat,k≤strs.length∧i=.int .i64 k∧Lib.IsBuilder 79 5 W1.heap.size W1.heap.size (Lib.byteCells (wtext ((lstr strs).take k))) wr∧Below w.heap.size w wr∧W1.heap.size≤wr.heap.size)
  (fun i _=>strs.length-(RowKit.intOf i).toNat)
 case atStart=>exact ⟨0,Nat.zero_le _,rfl,(by rw [List.take_zero];exact h0),(b1.alloc b1.size _),by simp⟩
 case round =>
  obtain ⟨k,hk,rfl,hI,hbw,hsz⟩:=hrel
  have hcx:k<strs.length→wr.cell? ⟨bk,o+k,none⟩=some (.string (strs.getD k ⟨#[]⟩)):=fun _=>(hbw.cell (by exact hb)).trans (hc k (by omega))
  have hlx:=hl.h k
  go_wp2_with (first | (go_at_call 31;refine (Tryz.own_WriteString W1.heap.size W1.heap.size _ _ _ hI ?_ hsz).mono ?_) | (go_at_call 32;refine (Tryz.Builder_Len W1.heap.size W1.heap.size _ _ hI).mono ?_))
  ·rw [Lib.byteCells_length]
   have hlt:k<strs.length:=by assumption
   have hsk:=hs k hlt
   rw [z5P hlt] at hsk
   have hsz':=Lib.size_eq strs[k]
   omega
  ·rintro e w' ⟨rfl,hI',hb'⟩
   have hlt:k<strs.length:=by assumption
   have hsk:=hs k hlt
   rw [z5P hlt] at hsk
   have hsz':=Lib.size_eq strs[k]
   have hc1:((strs[k].size:Int)==1)=true:=by assumption
   go_wp2
   go_roundw
   case rel =>
    refine ⟨k+1,by omega,by go_num,?_,hbw.trans (hb'.mono b1.size),Nat.le_trans hsz hb'.size⟩
    rw [wtext_take (lstr_get hlt),Lib.byteCells_append]
    have e:wSym strs[k].data.toList=strs[k].data.toList:=by
     unfold wSym
     rw [←hsz',hc1,if_pos rfl]
    rw [e]
    exact Or.inr hI'
   case measure=>simp [RowKit.intOf];omega
  ·exfalso
   have hlt:k<strs.length:=by assumption
   have hsk:=hs k hlt
   rw [z5P hlt] at hsk
   have hsz':=Lib.size_eq strs[k]
   omega
  ·exfalso
   have hlt:k<strs.length:=by assumption
   have hsk:=hs k hlt
   rw [z5P hlt] at hsk
   have hsz':=Lib.size_eq strs[k]
   omega
  ·rw [Lib.byteCells_length]
   have hlt:k<strs.length:=by assumption
   have hsk:=hs k hlt
   rw [z5P hlt] at hsk
   have hsz':=Lib.size_eq strs[k]
   have h60:(⟨#[60]⟩:ByteArray).size=1:=rfl
   have h62:(⟨#[62]⟩:ByteArray).size=1:=rfl
   rw [ByteArray.size_append,ByteArray.size_append]
   omega
  ·rintro e w' ⟨rfl,hI',hb'⟩
   have hlt:k<strs.length:=by assumption
   have hsk:=hs k hlt
   rw [z5P hlt] at hsk
   have hsz':=Lib.size_eq strs[k]
   have hc1:((strs[k].size:Int)==1)=false:=by assumption
   go_wp2
   go_roundw
   case rel =>
    refine ⟨k+1,by omega,by go_num,?_,hbw.trans (hb'.mono b1.size),Nat.le_trans hsz hb'.size⟩
    rw [wtext_take (lstr_get hlt),Lib.byteCells_append]
    have e:wSym strs[k].data.toList=(⟨#[60]⟩++strs[k]++⟨#[62]⟩:ByteArray).data.toList:=by
     unfold wSym
     rw [←hsz',hc1,if_neg (by simp)]
     simp
    rw [e]
    exact Or.inr hI'
   case measure=>simp [RowKit.intOf];omega
  ·have hk2:k=strs.length:=by omega
   subst hk2
   have htk:(lstr strs).take strs.length=lstr strs:=List.take_of_length_le (by simp [lstr])
   rintro e w' ⟨rfl,rfl⟩
   rw [htk] at hI hlx ⊢
   rw [Lib.byteCells_length]
   obtain ⟨hq1,hq2⟩:=hq.h
   unfold tx30 at hq1 hq2
   generalize wtext (lstr strs)=tw at *
   go_wp2_with (go_at_call 33;refine (Tryz.Builder_String_any W1.heap.size W1.heap.size _ _ hI hsz).mono ?_)
   ·have hd:decide ((tw.length:Int)>400)=true:=by simpa using (by assumption:(400:Int)<tw.length)
    rw [hd] at hq1 hq2
    go_ret2
    subst hq1 hq2
    exact ⟨rfl,hbw⟩
   ·rintro e w2 ⟨rfl,hb2⟩
    go_wp2
    go_ret2
    have hd:decide ((tw.length:Int)>400)=false:=by (first | assumption | simpa using (by assumption:(tw.length:Int)≤400) | simpa using (by assumption:(decide (400<(tw.length:Int)))=false))
    rw [hd] at hq1 hq2
    subst hq1 hq2
    exact ⟨rfl,hbw.trans (hb2.mono b1.size)⟩
set_option maxHeartbeats 2000000 in
set_option maxRecDepth 1000000 in
theorem walk30_none (a:Option Addr) (cap:Nat) (w:World)
  (h38:Calls Tryz.prog 27 #[.slice a 0 cap] w fun e w'=>e=.returned (.int .i64 0)∧Below w.heap.size w w') :
  Calls Tryz.prog 13 #[.slice a 0 cap] w fun e w' =>
   e=.returned (.tuple #[.string ⟨#[]⟩,.int .i64 0])∧Below w.heap.size w w':=by
 go_enter Tryz.func13,Tryz.ntmps13
 go_wp2_with (go_at_call 27;refine h38.mono ?_)
 rintro e W1 ⟨rfl,b1⟩
 have h0:Lib.IsBuilder 79 5 W1.heap.size W1.heap.size (Lib.byteCells []) (W1.alloc (.cells #[.pointer none,.slice none 0 0] 79)):=Lib.fresh_isBuilder 79 5 W1
 have b2:=b1.alloc b1.size (.cells #[.pointer none,.slice none 0 0] 79)
 have hsz:W1.heap.size≤(W1.alloc (.cells #[.pointer none,.slice none 0 0] 79)).heap.size:=by simp
 go_wp2
 refine wp_loop_rounds 1 ?_
 rw [rounds_succ]
 go_wp2_with (first | (go_at_call 32;refine (Tryz.Builder_Len W1.heap.size W1.heap.size _ _ h0).mono ?_))
 rintro e w' ⟨rfl,rfl⟩
 go_wp2_with (go_at_call 33;refine (Tryz.Builder_String_any W1.heap.size W1.heap.size _ _ h0 hsz).mono ?_)
 rintro e w2 ⟨rfl,hb2⟩
 go_wp2
 go_ret2
 exact ⟨rfl,b2.trans (hb2.mono b1.size)⟩
theorem vrel_list_inv {φ:Phi} {σ:Sig} {sz:Nat} {xs:List AV} {u:Value} (h:VRel φ σ (.list sz xs) u) (hx:xs≠[]) :
  ∃ (b o m cap:Nat) (f:Nat→Value),u=.slice (some (at_ b o)) m cap∧m=xs.length∧(∀ i,i<(flat xs).length→σ b (o+i)=some (f i))∧∀ i,VRel φ σ ((flat xs).getD i .top) (f i):=by
 cases h with
 | list _ _ b o n cap f hsz hxl hn h r=>exact ⟨b,o,n,cap,f,rfl,hxl.symm,h,r⟩
 | elist _ a=>exact absurd rfl hx
theorem call_nil {P:Program} {f:FuncId} {args:List AV} {v:AV} {m:Nat} {H:Heap} (ha:args.all (plainV m)=true) (h:ACall P f args [] (Just [] v))
  {φ:Phi} {σ:Sig} {cargs:Array Value} {w:World} (hr:HRel φ σ H w) (hc:CRel φ σ args cargs) :
  Calls P f cargs w fun e w'=>(∃ φ' σ' c,e=.returned c∧VRel φ' σ' v c)∧Below w.heap.size w w':=by
 have hc':CRel (below 0 φ) σ args cargs:=by
  refine ⟨hc.1,fun i=>?_⟩
  have:=hc.2 i
  rcases Nat.lt_or_ge i args.length with h | h
  ·rw [List.getD_eq_getElem?_getD,List.getElem?_eq_getElem h] at this ⊢
   exact plainV_rel (List.all_eq_true.1 ha _ (List.getElem_mem h)) this
  ·rw [List.getD_eq_getElem?_getD,List.getElem?_eq_none h];exact .top _
 refine (h (below 0 φ) σ cargs w (hrel_nil hr) hc').mono ?_
 rintro e w' ⟨φ',σ',r,H',s,kp,rr,rfl,rfl⟩
 obtain ⟨c,rfl,hvc⟩:=rr
 refine ⟨⟨φ',σ',c,rfl,hvc⟩,s.os,s.tape,s.output,s.size,fun k hk=>s.frame k hk ?_⟩
 rintro ⟨id,blk,L,h1,_⟩
 simp at h1
theorem sl_inv {sz:Nat} {v:AV} {xs:List AV} (h:Sl sz v xs):(v=.nilslice∧xs=[])∨v=.list sz xs:=by
 cases h with
 | nil=>exact .inl ⟨rfl,rfl⟩
 | list=>exact .inr rfl
theorem the_arg {φ:Phi} {σ:Sig} {a:AV} {cargs:Array Value} (h:CRel φ σ [a] cargs):∃ x,cargs = #[x]∧VRel φ σ a x:=by
 obtain ⟨hl,hr⟩:=h
 obtain ⟨l⟩:=cargs
 match l,hl with
 | [x],_=>exact ⟨x,rfl,hr 0⟩
theorem plain_strs (l:List Bt):plainV 2 (.list 1 (l.map .str))=true:=by
 simp [plainV]
theorem c30 {v:AV} {w:List Bt} (hv:Sl 1 v (w.map .str)) (h0:vword w=0) (H:Heap):ACall PP 13 [v] H (Just H (.tuple [.str (tx30 (wtext w)).1,.int .i64 (tx30 (wtext w)).2])):=by
 obtain ⟨hn,hs,hl⟩:=vword_le h0
 have hok:okW w:=⟨by omega,fun s hs'=>by have:=hs s hs';unfold okS;omega⟩
 have k38:=c38 hv hok []
 rw [h0] at k38
 refine acall_below fun φ σ cargs W hr hc=>?_
 have hpl:[v].all (plainV 2)=true:=by
  rcases sl_inv hv with ⟨rfl,_⟩ | rfl
  ·rfl
  ·simpa using plain_strs w
 have h38:=call_nil hpl k38 hr hc
 have h38:Calls Tryz.prog 27 cargs W fun e w'=>e=.returned (.int .i64 0)∧Below W.heap.size W w':=by
  refine h38.mono ?_
  rintro e w' ⟨⟨φ',σ',c,rfl,hc'⟩,hb⟩
  cases hc'
  exact ⟨rfl,hb⟩
 obtain ⟨u,rfl,hu⟩:=the_arg hc
 have fin:∀ (t:Bt) (st:ByteArray) (q:Int),st=baOf t→VRel φ σ (.tuple [.str t,.int .i64 q]) (.tuple #[.string st,.int .i64 q]):=by
  rintro t st q rfl
  refine .tuple _ _ rfl fun i=>?_
  match i with
  | 0=>exact .str _ _ rfl
  | 1=>exact .int _ _
  | i+2=>exact .top _
 have empty:w=[]→∀ a cap,u=.slice a 0 cap→Calls Tryz.prog 13 #[u] W fun e w'=>(∃ c,e=.returned c∧VRel φ σ (.tuple [.str (tx30 (wtext w)).1,.int .i64 (tx30 (wtext w)).2]) c)∧Below W.heap.size W w':=by
  rintro rfl a cap rfl
  refine (walk30_none a cap W h38).mono ?_
  rintro e w' ⟨rfl,hb⟩
  exact ⟨⟨_,rfl,fin [] _ 0 rfl⟩,hb⟩
 rcases sl_inv hv with ⟨rfl,hx⟩ | rfl
 ·have hw:w=[]:=by simpa using hx
  cases hu
  exact empty hw none 0 rfl
 ·by_cases hwz:w=[]
  ·subst hwz
   cases hu with
   | list _ _ b o m cap f hsz hxl hnc h r=>subst hxl;exact empty rfl _ _ rfl
   | elist _ a=>exact empty rfl _ _ rfl
  obtain ⟨b,o,m,cap,f,rfl,hml,h,r⟩:=vrel_list_inv hu (by simpa using hwz)
  rw [List.length_map] at hml
  subst hml
  ·have hfl:flat (w.map AV.str)=w.map AV.str:=cells_strs w
   by_cases hz:w=[]
   ·subst hz;exact empty rfl _ _ rfl
   have hbk:∀ j,j<w.length→σ b (o+j)=some (f j):=fun j hj=>h j (by rw [hfl,List.length_map];exact hj)
   have hst:∀ j (hj:j<w.length),f j=.string (baOf w[j]):=by
    intro j hj
    have:=r j
    rw [hfl,List.getD_eq_getElem?_getD,List.getElem?_map,List.getElem?_eq_getElem hj] at this
    exact vrel_str this
   have em:lstr (w.map baOf)=w:=by
    unfold lstr
    rw [List.map_map];conv=>rhs;rw [←List.map_id w]
    rfl
   have hwl:(w.map baOf).length=w.length:=List.length_map _
   have gd:∀ j (hj:j<w.length),(w.map baOf).getD j ⟨#[]⟩=baOf w[j]:=by
    intro j hj
    rw [List.getD_eq_getElem?_getD,List.getElem?_map,List.getElem?_eq_getElem hj];rfl
   have:=walk30 b o cap (w.map baOf) W (World.block_lt_of_cell? W _ (hr.sig _ _ _ (hbk 0 (List.length_pos_iff.2 hz))))
    (fun j hj=>by
     rw [hwl] at hj
     rw [gd j hj,←hst j hj];exact hr.sig _ _ _ (hbk j hj))
    (by rw [hwl];omega)
    (fun j hj=>by
     rw [hwl] at hj
     rw [gd j hj,Lib.size_eq];exact Nat.le_trans (hs _ (List.getElem_mem hj)) (by omega))
    (baOf (tx30 (wtext w)).1) (tx30 (wtext w)).2 ⟨by rw [em];exact ⟨rfl,rfl⟩⟩ ⟨fun k=>by rw [em];have:=wtext_le w k;omega⟩ (by rw [hwl];exact h38)
   rw [hwl] at this
   refine this.mono ?_
   rintro e w' ⟨rfl,hb⟩
   exact ⟨⟨_,rfl,fin _ _ _ rfl⟩,hb⟩
end Go.Ab
