/- Part 26 of the proof. -/
import Derived.Shelf.Strings.Builder1
import Derived.Shelf.Strings.Builder2
import Derived.Shelf.Strings.OnBuilder
import Derived.Shelf.Strings.Search1
import Derived.Shelf.Strings.Search2
import Derived.Shelf.Strings.Count
import Derived.Ground.Names2Prog
import Derived.Test.YtgpnlpieipoogaaGreatDoorProg
import Derived.Test.YtgpnlpieipoogaaGreatDoorA16
import Derived.Test.YtgpnlpieipoogaaGreatDoorA19
set_option linter.unusedVariables false
set_option linter.unusedSimpArgs false
namespace Go.Proofs
open Go.Shelf
def Tryz.lays170_ren:Go.Shelf.Ren:=⟨fun | 170=>32 | n=>n,fun | 70=>76 | 3=>3 | 0=>0 | 72=>79 | 37=>77 | 5=>5 | n=>n,fun | n=>n⟩
theorem Tryz.lays170:Go.Proofs.Lays.n170 Tryz.prog Tryz.lays170_ren:={
 mixed:=by kernel_rfl
 f170:=Tryz.func32.trans (congrArg some (by kernel_rfl))
 t0:=Tryz.underlying0
 a0:=Tryz.isAgg0
 z0:=Tryz.sizeOf0
 v0:=Tryz.zeroValue0
 t3:=Tryz.underlying3
 a3:=Tryz.isAgg3
 z3:=Tryz.sizeOf3
 v3:=Tryz.zeroValue3
 t37:=Tryz.underlying77
 a37:=Tryz.isAgg77
 z37:=Tryz.sizeOf77
 v37:=Tryz.zeroValue77
 t70:=Tryz.underlying76
 a70:=Tryz.isAgg76
 z70:=Tryz.sizeOf76
 v70:=Tryz.zeroValue76
 t72:=Tryz.underlying79
 a72:=Tryz.isAgg79
 z72:=Tryz.sizeOf79
 v72:=Tryz.zeroValue79 }
open Go.RowKit in
theorem Tryz.Builder_Len (B b:Nat) (bs:List Value) (w:World) (h:Lib.IsBuilder 79 5 B b bs w) :
  Calls Tryz.prog 32 #[.pointer (some ⟨b,0,none⟩)] w fun e w'=>e=.returned (.int .i64 bs.length)∧w'=w:=Any.Builder_Len Tryz.lays170 B b bs w h
def Tryz.lays169_ren:Go.Shelf.Ren:=⟨fun | 169=>33 | n=>n,fun | 70=>76 | 9=>9 | 0=>0 | 72=>79 | 37=>77 | 127=>141 | 3=>3 | 5=>5 | n=>n,fun | n=>n⟩
theorem Tryz.lays169:Go.Proofs.Lays.n169 Tryz.prog Tryz.lays169_ren:={
 mixed:=by kernel_rfl
 f169:=Tryz.func33.trans (congrArg some (by kernel_rfl))
 t0:=Tryz.underlying0
 a0:=Tryz.isAgg0
 z0:=Tryz.sizeOf0
 v0:=Tryz.zeroValue0
 t3:=Tryz.underlying3
 a3:=Tryz.isAgg3
 z3:=Tryz.sizeOf3
 v3:=Tryz.zeroValue3
 t9:=Tryz.underlying9
 a9:=Tryz.isAgg9
 z9:=Tryz.sizeOf9
 v9:=Tryz.zeroValue9
 t37:=Tryz.underlying77
 a37:=Tryz.isAgg77
 z37:=Tryz.sizeOf77
 v37:=Tryz.zeroValue77
 t70:=Tryz.underlying76
 a70:=Tryz.isAgg76
 z70:=Tryz.sizeOf76
 v70:=Tryz.zeroValue76
 t72:=Tryz.underlying79
 a72:=Tryz.isAgg79
 z72:=Tryz.sizeOf79
 v72:=Tryz.zeroValue79
 t127:=Tryz.underlying141
 a127:=Tryz.isAgg141
 z127:=Tryz.sizeOf141
 v127:=Tryz.zeroValue141 }
theorem Tryz.Builder_Extra_169:Builder.Extra Tryz.prog Tryz.lays169_ren:={
 sizeBuilder:=by kernel_rfl
 liesBuilder:=by kernel_rfl
 t5:=Tryz.underlying5
 a5:=Tryz.isAgg5
 z5:=Tryz.sizeOf5
 v5:=Tryz.zeroValue5
 infoByte:=by kernel_rfl
 cellsByte:=by kernel_rfl
 sizeByte:=by kernel_rfl
 neB5:=by decide }
open Go.RowKit in
theorem Tryz.Builder_String_any (B b:Nat) (l:List UInt8) (w:World) (h:Lib.IsBuilder 79 5 B b (Lib.byteCells l) w) (hBw:B≤w.heap.size) :
  Calls Tryz.prog 33 #[.pointer (some ⟨b,0,none⟩)] w fun e w'=>e=.returned (.string ⟨l.toArray⟩)∧Below B w w':=Any.Builder_String_any Tryz.lays169 Tryz.Builder_Extra_169 B b l w h hBw
def Tryz.lays156_ren:Go.Shelf.Ren:=⟨fun | 156=>16 | 165=>35 | 166=>31 | 169=>33 | 240=>78 | 241=>80 | 276=>116 | 277=>118 | n=>n,fun | 31=>40 | 9=>9 | 3=>3 | 4=>4 | 0=>0 | 20=>20 | 72=>79 | 76=>82 | 70=>76 | 37=>77 | 75=>81 | 127=>141 | 164=>190 | 5=>5 | 80=>85 | n=>n,fun | n=>n⟩
theorem Tryz.lays156:Go.Proofs.Lays.n156 Tryz.prog Tryz.lays156_ren:={
 mixed:=by kernel_rfl
 f156:=Tryz.func16.trans (congrArg some (by kernel_rfl))
 f165:=Tryz.func35.trans (congrArg some (by kernel_rfl))
 f166:=Tryz.func31.trans (congrArg some (by kernel_rfl))
 f169:=Tryz.func33.trans (congrArg some (by kernel_rfl))
 f240:=Tryz.func78.trans (congrArg some (by kernel_rfl))
 f241:=Tryz.func80.trans (congrArg some (by kernel_rfl))
 f276:=Tryz.func116.trans (congrArg some (by kernel_rfl))
 f277:=Tryz.func118.trans (congrArg some (by kernel_rfl))
 t0:=Tryz.underlying0
 a0:=Tryz.isAgg0
 z0:=Tryz.sizeOf0
 v0:=Tryz.zeroValue0
 t3:=Tryz.underlying3
 a3:=Tryz.isAgg3
 z3:=Tryz.sizeOf3
 v3:=Tryz.zeroValue3
 t4:=Tryz.underlying4
 a4:=Tryz.isAgg4
 z4:=Tryz.sizeOf4
 v4:=Tryz.zeroValue4
 t9:=Tryz.underlying9
 a9:=Tryz.isAgg9
 z9:=Tryz.sizeOf9
 v9:=Tryz.zeroValue9
 t20:=Tryz.underlying20
 a20:=Tryz.isAgg20
 z20:=Tryz.sizeOf20
 v20:=Tryz.zeroValue20
 t31:=Tryz.underlying40
 a31:=Tryz.isAgg40
 z31:=Tryz.sizeOf40
 v31:=Tryz.zeroValue40
 t37:=Tryz.underlying77
 a37:=Tryz.isAgg77
 z37:=Tryz.sizeOf77
 v37:=Tryz.zeroValue77
 t70:=Tryz.underlying76
 a70:=Tryz.isAgg76
 z70:=Tryz.sizeOf76
 v70:=Tryz.zeroValue76
 t72:=Tryz.underlying79
 a72:=Tryz.isAgg79
 z72:=Tryz.sizeOf79
 v72:=Tryz.zeroValue79
 t75:=Tryz.underlying81
 a75:=Tryz.isAgg81
 z75:=Tryz.sizeOf81
 v75:=Tryz.zeroValue81
 t76:=Tryz.underlying82
 a76:=Tryz.isAgg82
 z76:=Tryz.sizeOf82
 v76:=Tryz.zeroValue82
 t127:=Tryz.underlying141
 a127:=Tryz.isAgg141
 z127:=Tryz.sizeOf141
 v127:=Tryz.zeroValue141
 t164:=Tryz.underlying190
 a164:=Tryz.isAgg190
 z164:=Tryz.sizeOf190
 v164:=Tryz.zeroValue190 }
theorem Tryz.Builder_Extra_156:Builder.Extra Tryz.prog Tryz.lays156_ren:={
 sizeBuilder:=by kernel_rfl
 liesBuilder:=by kernel_rfl
 t5:=Tryz.underlying5
 a5:=Tryz.isAgg5
 z5:=Tryz.sizeOf5
 v5:=Tryz.zeroValue5
 infoByte:=by kernel_rfl
 cellsByte:=by kernel_rfl
 sizeByte:=by kernel_rfl
 neB5:=by decide }
open Go.RowKit in
theorem Tryz.strings_Join_none (a:Option Addr) (c:Nat) (sep:ByteArray) (w:World) :
  Calls Tryz.prog 16 #[.slice a 0 c,.string sep] w fun e w'=>e=.returned (.string ⟨#[]⟩)∧w'=w:=Any.strings_Join_none Tryz.lays156 Tryz.Builder_Extra_156 a c sep w
open Go.RowKit in
theorem Tryz.strings_Join (bk o c:Nat) (xs:List ByteArray) (sep:ByteArray) (w:World) (hcells:∀ (j:Nat) x,xs[j]? =some x→w.cell? ⟨bk,o+j,none⟩=some (.string x)) (hbk:bk<w.heap.size) (hN:xs.length≤140737488355328) (hcap:xs.length≤c) (hlen:(Lib.join (xs.map (·.data.toList)) sep.data.toList).length≤140737488355328) :
  Calls Tryz.prog 16 #[.slice (some ⟨bk,o,none⟩) xs.length c,.string sep] w fun e w'=>e=.returned (.string ⟨(Lib.join (xs.map (·.data.toList)) sep.data.toList).toArray⟩)∧Below w.heap.size w w':=Any.strings_Join Tryz.lays156 Tryz.Builder_Extra_156 bk o c xs sep w hcells hbk hN hcap hlen
def Tryz.lays217_ren:Go.Shelf.Ren:=⟨fun | 217=>146 | 266=>171 | n=>n,fun | 9=>9 | 5=>5 | 3=>3 | n=>n,fun | n=>n⟩
theorem Tryz.lays217:Go.Proofs.Lays.n217 Tryz.prog Tryz.lays217_ren:={
 mixed:=by kernel_rfl
 f217:=Tryz.func146.trans (congrArg some (by kernel_rfl))
 f266:=Tryz.func171.trans (congrArg some (by kernel_rfl))
 t3:=Tryz.underlying3
 a3:=Tryz.isAgg3
 z3:=Tryz.sizeOf3
 v3:=Tryz.zeroValue3
 t5:=Tryz.underlying5
 a5:=Tryz.isAgg5
 z5:=Tryz.sizeOf5
 v5:=Tryz.zeroValue5
 t9:=Tryz.underlying9
 a9:=Tryz.isAgg9
 z9:=Tryz.sizeOf9
 v9:=Tryz.zeroValue9 }
open Go.RowKit Go.Lib in
theorem Tryz.stringslite_IndexByte (s:ByteArray) (c:Int) (w:World) :
  Calls Tryz.prog 146 #[.string s,.int .u8 c] w fun e w'=>e=.returned (.int .i64 (Lib.indexByte s.data.toList c.toNat.toUInt8))∧w'=w:=Any.stringslite_IndexByte Tryz.lays217 s c w
def Tryz.lays219_ren:Go.Shelf.Ren:=⟨fun | 219=>122 | 217=>146 | 225=>147 | 224=>148 | 267=>149 | 266=>171 | 314=>172 | n=>n,fun | 9=>9 | 3=>3 | 4=>4 | 5=>5 | 46=>202 | 146=>239 | 51=>238 | n=>n,fun | 1=>0 | n=>n⟩
theorem Tryz.lays219:Go.Proofs.Lays.n219 Tryz.prog Tryz.lays219_ren:={
 mixed:=by kernel_rfl
 f217:=Tryz.func146.trans (congrArg some (by kernel_rfl))
 f219:=Tryz.func122.trans (congrArg some (by kernel_rfl))
 f224:=Tryz.func148.trans (congrArg some (by kernel_rfl))
 f225:=Tryz.func147.trans (congrArg some (by kernel_rfl))
 f266:=Tryz.func171.trans (congrArg some (by kernel_rfl))
 f267:=Tryz.func149.trans (congrArg some (by kernel_rfl))
 f314:=Tryz.func172.trans (congrArg some (by kernel_rfl))
 t3:=Tryz.underlying3
 a3:=Tryz.isAgg3
 z3:=Tryz.sizeOf3
 v3:=Tryz.zeroValue3
 t4:=Tryz.underlying4
 a4:=Tryz.isAgg4
 z4:=Tryz.sizeOf4
 v4:=Tryz.zeroValue4
 t5:=Tryz.underlying5
 a5:=Tryz.isAgg5
 z5:=Tryz.sizeOf5
 v5:=Tryz.zeroValue5
 t9:=Tryz.underlying9
 a9:=Tryz.isAgg9
 z9:=Tryz.sizeOf9
 v9:=Tryz.zeroValue9
 t46:=Tryz.underlying202
 a46:=Tryz.isAgg202
 z46:=Tryz.sizeOf202
 v46:=Tryz.zeroValue202
 t51:=Tryz.underlying238
 a51:=Tryz.isAgg238
 z51:=Tryz.sizeOf238
 v51:=Tryz.zeroValue238
 t146:=Tryz.underlying239
 a146:=Tryz.isAgg239
 z146:=Tryz.sizeOf239
 v146:=Tryz.zeroValue239
 g1:=by kernel_rfl }
open Go.RowKit Go.Lib in
theorem Tryz.stringslite_Index_one (s:ByteArray) (c:UInt8) (w:World) :
  Calls Tryz.prog 122 #[.string s,.string ⟨#[c]⟩] w fun e w'=>e=.returned (.int .i64 (Lib.indexByte s.data.toList c))∧w'=w:=Any.stringslite_Index_one Tryz.lays219 s c w
def Tryz.lays138_ren:Go.Shelf.Ren:=⟨fun | 138=>82 | 195=>119 | 218=>121 | 143=>83 | 219=>122 | 217=>146 | 225=>147 | 224=>148 | 267=>149 | 266=>171 | 314=>172 | n=>n,fun | 9=>9 | 3=>3 | 4=>4 | 5=>5 | 0=>0 | 46=>202 | 146=>239 | 51=>238 | n=>n,fun | 1=>0 | n=>n⟩
theorem Tryz.lays138:Go.Proofs.Lays.n138 Tryz.prog Tryz.lays138_ren:={
 mixed:=by kernel_rfl
 f138:=Tryz.func82.trans (congrArg some (by kernel_rfl))
 f143:=Tryz.func83.trans (congrArg some (by kernel_rfl))
 f195:=Tryz.func119.trans (congrArg some (by kernel_rfl))
 f217:=Tryz.func146.trans (congrArg some (by kernel_rfl))
 f218:=Tryz.func121.trans (congrArg some (by kernel_rfl))
 f219:=Tryz.func122.trans (congrArg some (by kernel_rfl))
 f224:=Tryz.func148.trans (congrArg some (by kernel_rfl))
 f225:=Tryz.func147.trans (congrArg some (by kernel_rfl))
 f266:=Tryz.func171.trans (congrArg some (by kernel_rfl))
 f267:=Tryz.func149.trans (congrArg some (by kernel_rfl))
 f314:=Tryz.func172.trans (congrArg some (by kernel_rfl))
 t0:=Tryz.underlying0
 a0:=Tryz.isAgg0
 z0:=Tryz.sizeOf0
 v0:=Tryz.zeroValue0
 t3:=Tryz.underlying3
 a3:=Tryz.isAgg3
 z3:=Tryz.sizeOf3
 v3:=Tryz.zeroValue3
 t4:=Tryz.underlying4
 a4:=Tryz.isAgg4
 z4:=Tryz.sizeOf4
 v4:=Tryz.zeroValue4
 t5:=Tryz.underlying5
 a5:=Tryz.isAgg5
 z5:=Tryz.sizeOf5
 v5:=Tryz.zeroValue5
 t9:=Tryz.underlying9
 a9:=Tryz.isAgg9
 z9:=Tryz.sizeOf9
 v9:=Tryz.zeroValue9
 t46:=Tryz.underlying202
 a46:=Tryz.isAgg202
 z46:=Tryz.sizeOf202
 v46:=Tryz.zeroValue202
 t51:=Tryz.underlying238
 a51:=Tryz.isAgg238
 z51:=Tryz.sizeOf238
 v51:=Tryz.zeroValue238
 t146:=Tryz.underlying239
 a146:=Tryz.isAgg239
 z146:=Tryz.sizeOf239
 v146:=Tryz.zeroValue239
 g1:=by kernel_rfl }
open Go.RowKit Go.Lib in
theorem Tryz.strings_Count_one (s:ByteArray) (c:UInt8) (w:World) :
  Calls Tryz.prog 82 #[.string s,.string ⟨#[c]⟩] w fun e w'=>e=.returned (.int .i64 (Lib.countByte s.data.toList c))∧w'=w:=Any.strings_Count_one Tryz.lays138 s c w
end Go.Proofs
namespace Go.Ab
open Go
theorem ba_of {s:ByteArray} {c:UInt8} (h:s.data.toList=[c]):s=⟨#[c]⟩:=by
 obtain ⟨⟨l⟩⟩:=s
 simp only at h;rw [h]
def ansCount:List AV→Heap→Option AV
 | [.str s,.str [c]],_=>some (.int .i64 (Lib.countByte s c))
 | _,_=>none
theorem two_args {φ:Phi} {σ:Sig} {a b:AV} {cargs:Array Value} (h:CRel φ σ [a,b] cargs):∃ x y,cargs = #[x,y]∧VRel φ σ a x∧VRel φ σ b y:=by
 obtain ⟨hl,hr⟩:=h
 obtain ⟨l⟩:=cargs
 match l,hl with
 | [x,y],_=>exact ⟨x,y,rfl,by simpa using hr 0,by simpa using hr 1⟩
theorem count_ok (args:List AV) (H:Heap) (v:AV) (h:ansCount args H=some v):ACall Proofs.Tryz.prog 82 args H (fun r H'=>r=.ret v∧H'=H):=by
 unfold ansCount at h
 split at h
 ·rename_i s c
  injection h with h;subst h
  refine acall_same fun φ σ cargs w hr hc=>?_
  obtain ⟨x,y,rfl,hx,hy⟩:=two_args hc
  cases hx with
  | str _ a ha=>cases hy with
   | str _ b hb =>
    rw [ba_of hb]
    refine (Proofs.Tryz.strings_Count_one a c w).mono ?_
    rintro e w' ⟨rfl,rfl⟩
    exact ⟨⟨_,rfl,by rw [ha];exact .int _ _⟩,rfl⟩
 ·cases h
def ansIndex:List AV→Heap→Option AV
 | [.str s,.str [c]],_=>some (.int .i64 (Lib.indexByte s c))
 | _,_=>none
theorem index_ok (args:List AV) (H:Heap) (v:AV) (h:ansIndex args H=some v):ACall Proofs.Tryz.prog 122 args H (fun r H'=>r=.ret v∧H'=H):=by
 unfold ansIndex at h
 split at h
 ·rename_i s c
  injection h with h;subst h
  refine acall_same fun φ σ cargs w hr hc=>?_
  obtain ⟨x,y,rfl,hx,hy⟩:=two_args hc
  cases hx with
  | str _ a ha=>cases hy with
   | str _ b hb =>
    rw [ba_of hb]
    refine (Proofs.Tryz.stringslite_Index_one a c w).mono ?_
    rintro e w' ⟨rfl,rfl⟩
    exact ⟨⟨_,rfl,by rw [ha];exact .int _ _⟩,rfl⟩
 ·cases h
def ansIndexByte:List AV→Heap→Option AV
 | [.str s,.int .u8 c],_=>some (.int .i64 (Lib.indexByte s c.toNat.toUInt8))
 | _,_=>none
theorem indexByte_ok (args:List AV) (H:Heap) (v:AV) (h:ansIndexByte args H=some v):ACall Proofs.Tryz.prog 146 args H (fun r H'=>r=.ret v∧H'=H):=by
 unfold ansIndexByte at h
 split at h
 ·rename_i s c
  injection h with h;subst h
  refine acall_same fun φ σ cargs w hr hc=>?_
  obtain ⟨x,y,rfl,hx,hy⟩:=two_args hc
  cases hx with
  | str _ a ha=>cases hy with
   | int =>
    refine (Proofs.Tryz.stringslite_IndexByte a c w).mono ?_
    rintro e w' ⟨rfl,rfl⟩
    exact ⟨⟨_,rfl,by rw [ha];exact .int _ _⟩,rfl⟩
 ·cases h
theorem body114:hasBody Proofs.Tryz.prog 82=true:=by unfold hasBody;rw [Go.Proofs.Tryz.func82];rfl
theorem body171:hasBody Proofs.Tryz.prog 122=true:=by unfold hasBody;rw [Go.Proofs.Tryz.func122];rfl
theorem body207:hasBody Proofs.Tryz.prog 146=true:=by unfold hasBody;rw [Go.Proofs.Tryz.func146];rfl
def orcLib:BCall:=orcPure 82 ansCount (orcPure 122 ansIndex (orcPure 146 ansIndexByte orcNone))
theorem orcLib_ok:CallOk Proofs.Tryz.prog orcLib :=
 orcPure_ok (orcPure_ok (orcPure_ok orcNone_ok body207 indexByte_ok) body171 index_ok) body114 count_ok
end Go.Ab
namespace Go.Ab
open Go
variable {P:Program} {φ:Phi} {σ:Sig} {H:Heap} {w w':World}
theorem step_below (hr:HRel φ σ H w) (h:RowKit.Below w.heap.size w w'):Step φ σ H w φ σ H w':=by
 have hb:∀ k,k<w.heap.size→w'.heap[k]? =w.heap[k]?:=h.block
 refine ⟨.refl _,.refl _,h.os,h.tape,h.output,h.size,fun b hlt _=>hb b hlt,fun b hb=>.inr hb,?_⟩
 refine ⟨hr.dom,fun id L hL=>Nat.lt_of_lt_of_le (hr.bnd id L hL) h.size,?_,hr.inj,?_,hr.resv⟩
 ·intro id b hg hl
  obtain ⟨L,h1,h2⟩:=hr.blk id b hg hl
  exact ⟨L,h1,h2.mono (.refl _) (.refl _) (fun _ _ _ h=>h) (hb _ (hr.bnd _ _ h1))⟩
 ·intro b o v hs
  have:=hr.sig b o v hs
  rw [World.cell?_of_block (hb b (World.block_lt_of_cell? w _ this))];exact this
theorem acall_below {f:FuncId} {args:List AV} {v:AV} (h:∀ (φ:Phi) (σ:Sig) (cargs:Array Value) (w:World),HRel φ σ H w→CRel φ σ args cargs →
  Calls P f cargs w fun e w'=>(∃ c,e=.returned c∧VRel φ σ v c)∧RowKit.Below w.heap.size w w'):ACall P f args H (Just H v):=by
 intro φ σ cargs w hr hc
 refine (h φ σ cargs w hr hc).mono ?_
 rintro e w' ⟨⟨c,rfl,hv⟩,hb⟩
 exact ⟨φ,σ,.ret v,H,step_below hr hb,.refl _,⟨c,rfl,hv⟩,rfl,rfl⟩
def baOf (l:List UInt8):ByteArray:=⟨l.toArray⟩
theorem vrel_str {l:List UInt8} {c:Value} (h:VRel φ σ (.str l) c):c=.string (baOf l):=by
 cases h with
 | str _ s hs=>subst hs;rfl
theorem cells_strs (l:List (List UInt8)):flat (l.map AV.str)=l.map AV.str:=by
 induction l with
 | nil=>rfl
 | cons a l ih=>show [AV.str a]++flat (l.map AV.str)=_;rw [ih];rfl
theorem z3N {x:AV} {n:Nat} {strs:List (List UInt8)} {sep:List UInt8} (hx:srcOf 1 H x=some (n,strs.map .str)) (hn:strs.length≤140737488355328)
  (hlen:(Lib.join strs sep).length≤140737488355328):ACall Proofs.Tryz.prog 16 [x,.str sep] H (Just H (.str (Lib.join strs sep))):=by
 refine acall_below fun φ σ cargs w hr hc=>?_
 obtain ⟨u,v,rfl,hu,hv⟩:=two_args hc
 rw [vrel_str hv]
 have em:(strs.map baOf).map (fun b=>b.data.toList)=strs:=by
  rw [List.map_map];conv=>rhs;rw [←List.map_id strs]
  rfl
 have main:∀ (bk o cap:Nat),bk<w.heap.size→strs.length≤cap→(∀ j,j<strs.length→∃ c,w.cell? ⟨bk,o+j,none⟩=some c∧VRel φ σ ((strs.map AV.str).getD j .top) c) →
   Calls Proofs.Tryz.prog 16 #[.slice (some ⟨bk,o,none⟩) strs.length cap,.string (baOf sep)] w fun e w'=>(∃ c,e=.returned c∧VRel φ σ (.str (Lib.join strs sep)) c)∧RowKit.Below w.heap.size w w':=by
  intro bk o cap hbk hcap hcells
  have:=Proofs.Tryz.strings_Join bk o cap (strs.map baOf) (baOf sep) w (fun j x hj=>?_) hbk (by simpa using hn) (by simpa using hcap) (by rw [em];exact hlen)
  ·rw [em,List.length_map] at this
   refine this.mono ?_
   rintro e w' ⟨rfl,hb⟩
   exact ⟨⟨_,rfl,.str _ _ rfl⟩,hb⟩
  ·rw [List.getElem?_map] at hj
   cases hs:strs[j]? with
   | none=>rw [hs] at hj;simp at hj
   | some l =>
    rw [hs] at hj;simp only [Option.map_some] at hj;injection hj with hj;subst hj
    obtain ⟨c,h1,h2⟩:=hcells j (List.getElem?_eq_some_iff.1 hs).1
    rw [List.getD_eq_getElem?_getD,List.getElem?_map,hs] at h2
    rw [h1,vrel_str h2]
 unfold srcOf at hx
 split at hx
 ·injection hx with hx;injection hx with h1 h2
  have:strs=[]:=by simpa using h2.symm
  subst this
  cases hu
  refine (Proofs.Tryz.strings_Join_none none 0 (baOf sep) w).mono ?_
  rintro e w' ⟨rfl,rfl⟩
  exact ⟨⟨_,rfl,.str _ _ rfl⟩,.refl _ _⟩
 ·rename_i id off m sz'
  split at hx
  ·rename_i e;subst e
   split at hx
   ·rename_i cs hg
    split at hx
    ·rename_i hle
     injection hx with hx;injection hx with h1 h2
     cases hu with
     | sl _ _ _ _ cap L hp hn hc =>
      obtain ⟨arr,t',fr,g1,g2,g3,g4,g5,g6⟩:=blk_cells hr hg hp
      have hml:m=strs.length:=by
       have:=congrArg List.length h2
       simp at this;omega
      subst hml
      refine main L.b (L.o+off) cap (hr.bnd _ _ hp) hn fun j hj=>⟨arr.getD (L.o+off+j) undef,?_,?_⟩
      ·have:=cell_of_blk (o:=L.o+off+j) g1
       unfold at_ at this
       rw [this,getD_some (by omega)]
      ·have:=g5 (off+j) (by omega)
       rw [←h2,z2C,if_pos (by omega),Nat.add_assoc];exact this
    ·cases hx
   ·cases hx
  ·cases hx
 ·rename_i sz' xs
  split at hx
  ·rename_i e;subst e
   injection hx with hx;injection hx with h1 h2
   cases hu with
   | list _ _ b o m cap f hsz hxl hn h r =>
    have hfl:(flat xs).length=xs.length*1:=flat_len hsz
    have hml:m=strs.length:=by
     have:=congrArg List.length h2
     rw [List.length_map] at this;omega
    subst hml
    have hbk:∀ j,j<strs.length→σ b (o+j)=some (f j):=fun j hj=>h j (by omega)
    by_cases h0:strs.length=0
    ·have:strs=[]:=List.length_eq_zero_iff.1 h0
     subst this
     refine (Proofs.Tryz.strings_Join_none _ cap (baOf sep) w).mono ?_
     rintro e w' ⟨rfl,rfl⟩
     exact ⟨⟨_,rfl,.str _ _ rfl⟩,.refl _ _⟩
    ·refine main b o cap (World.block_lt_of_cell? w _ (hr.sig _ _ _ (hbk 0 (by omega)))) hn fun j hj=>⟨f j,?_,?_⟩
     ·exact hr.sig _ _ _ (hbk j hj)
     ·have:=r j
      rw [h2] at this;exact this
   | elist _ a =>
    have:strs=[]:=by simpa [flat] using h2.symm
    subst this
    refine (Proofs.Tryz.strings_Join_none _ _ (baOf sep) w).mono ?_
    rintro e w' ⟨rfl,rfl⟩
    exact ⟨⟨_,rfl,.str _ _ rfl⟩,.refl _ _⟩
  ·cases hx
 ·cases hx
def unstr:List AV→Option (List (List UInt8))
 | []=>some []
 | .str s::l=>match unstr l with
  | some r=>some (s::r)
  | none=>none
 | _=>none
theorem unstr_eq:∀ {l:List AV} {r:List (List UInt8)},unstr l=some r→l=r.map .str
 | [],r,h=>by injection h with h;subst h;rfl
 | v::l,r,h=>by
  cases v<;>simp only [unstr] at h<;>try cases h
  split at h
  ·rename_i q hq;injection h with h;subst h;rw [unstr_eq hq];rfl
  ·cases h
def ansJoin:List AV→Heap→Option AV
 | [x,.str sep],H=>match srcOf 1 H x with
  | some (_,ys)=>match unstr ys with
   | some strs=>if strs.length≤1000∧(Lib.join strs sep).length≤1000 then some (.str (Lib.join strs sep)) else none
   | none=>none
  | none=>none
 | _,_=>none
theorem join_ok (args:List AV) (H:Heap) (v:AV) (h:ansJoin args H=some v):ACall Proofs.Tryz.prog 16 args H (fun r H'=>r=.ret v∧H'=H):=by
 unfold ansJoin at h
 split at h
 ·rename_i x sep
  split at h
  ·rename_i n ys hs
   split at h
   ·rename_i strs hu
    split at h
    ·rename_i hc
     injection h with h;subst h
     rw [unstr_eq hu] at hs
     exact z3N hs (by omega) (by omega)
    ·cases h
   ·cases h
  ·cases h
 ·cases h
theorem body33:hasBody Proofs.Tryz.prog 16=true:=by unfold hasBody;rw [Go.Proofs.Tryz.func16];rfl
end Go.Ab
