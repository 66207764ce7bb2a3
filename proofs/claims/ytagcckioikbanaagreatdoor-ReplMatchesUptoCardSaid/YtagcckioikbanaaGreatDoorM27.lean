/- Part 27 of the proof. -/
import Derived.Shelf.Strings.Builder1
import Derived.Shelf.Strings.Builder2
import Derived.Shelf.Strings.OnBuilder
import Derived.Shelf.Small.Bits
import Derived.Shelf.Strconv.Itoa0
import Derived.Shelf.Strconv.Itoa1
import Derived.Shelf.Strconv.Itoa3
import Derived.Shelf.Strings.Search1
import Derived.Shelf.Strings.Search2
import Derived.Shelf.Strings.Count
import Derived.Ground.Names2Prog
import Derived.Test.YtagcckioikbanaaGreatDoorProg
import Derived.Test.YtagcckioikbanaaGreatDoorM16
import Derived.Test.YtagcckioikbanaaGreatDoorM19
set_option linter.unusedVariables false
set_option linter.unusedSimpArgs false
namespace Go.Proofs
open Go.Shelf
def Tryz.lays156_ren:Go.Shelf.Ren:=⟨fun | 156=>134 | 165=>187 | 166=>188 | 169=>189 | 240=>221 | 241=>222 | 276=>240 | 277=>241 | n=>n,fun | 31=>26 | 9=>9 | 3=>3 | 4=>4 | 0=>0 | 20=>20 | 72=>263 | 76=>267 | 70=>261 | 37=>166 | 75=>266 | 127=>289 | 164=>313 | 5=>5 | 80=>144 | n=>n,fun | n=>n⟩
theorem Tryz.lays156:Go.Proofs.Lays.n156 Tryz.prog Tryz.lays156_ren:={
 mixed:=by kernel_rfl
 f156:=Tryz.func134.trans (congrArg some (by kernel_rfl))
 f165:=Tryz.func187.trans (congrArg some (by kernel_rfl))
 f166:=Tryz.func188.trans (congrArg some (by kernel_rfl))
 f169:=Tryz.func189.trans (congrArg some (by kernel_rfl))
 f240:=Tryz.func221.trans (congrArg some (by kernel_rfl))
 f241:=Tryz.func222.trans (congrArg some (by kernel_rfl))
 f276:=Tryz.func240.trans (congrArg some (by kernel_rfl))
 f277:=Tryz.func241.trans (congrArg some (by kernel_rfl))
 t0:=Tryz.underlying0
 a0:=Tryz.isAgg0
 z0:=Tryz.sizeOf0
 v0:=Tryz.zeroValue0
 t3:=Tryz.underlying3
 a3:=Tryz.isAgg3
 z3:=Tryz.sizeOf3
 v3:=Tryz.zeroValue3
 t4:=Tryz.underlying4
 a4:=Tryz.isAgg4
 z4:=Tryz.sizeOf4
 v4:=Tryz.zeroValue4
 t9:=Tryz.underlying9
 a9:=Tryz.isAgg9
 z9:=Tryz.sizeOf9
 v9:=Tryz.zeroValue9
 t20:=Tryz.underlying20
 a20:=Tryz.isAgg20
 z20:=Tryz.sizeOf20
 v20:=Tryz.zeroValue20
 t31:=Tryz.underlying26
 a31:=Tryz.isAgg26
 z31:=Tryz.sizeOf26
 v31:=Tryz.zeroValue26
 t37:=Tryz.underlying166
 a37:=Tryz.isAgg166
 z37:=Tryz.sizeOf166
 v37:=Tryz.zeroValue166
 t70:=Tryz.underlying261
 a70:=Tryz.isAgg261
 z70:=Tryz.sizeOf261
 v70:=Tryz.zeroValue261
 t72:=Tryz.underlying263
 a72:=Tryz.isAgg263
 z72:=Tryz.sizeOf263
 v72:=Tryz.zeroValue263
 t75:=Tryz.underlying266
 a75:=Tryz.isAgg266
 z75:=Tryz.sizeOf266
 v75:=Tryz.zeroValue266
 t76:=Tryz.underlying267
 a76:=Tryz.isAgg267
 z76:=Tryz.sizeOf267
 v76:=Tryz.zeroValue267
 t127:=Tryz.underlying289
 a127:=Tryz.isAgg289
 z127:=Tryz.sizeOf289
 v127:=Tryz.zeroValue289
 t164:=Tryz.underlying313
 a164:=Tryz.isAgg313
 z164:=Tryz.sizeOf313
 v164:=Tryz.zeroValue313 }
theorem Tryz.Builder_Extra_156:Builder.Extra Tryz.prog Tryz.lays156_ren:={
 sizeBuilder:=by kernel_rfl
 liesBuilder:=by kernel_rfl
 t5:=Tryz.underlying5
 a5:=Tryz.isAgg5
 z5:=Tryz.sizeOf5
 v5:=Tryz.zeroValue5
 infoByte:=by kernel_rfl
 cellsByte:=by kernel_rfl
 sizeByte:=by kernel_rfl
 neB5:=by decide }
open Go.RowKit in
theorem Tryz.strings_Join_none (a:Option Addr) (c:Nat) (sep:ByteArray) (w:World) :
  Calls Tryz.prog 134 #[.slice a 0 c,.string sep] w fun e w'=>e=.returned (.string ⟨#[]⟩)∧w'=w:=Any.strings_Join_none Tryz.lays156 Tryz.Builder_Extra_156 a c sep w
open Go.RowKit in
theorem Tryz.strings_Join (bk o c:Nat) (xs:List ByteArray) (sep:ByteArray) (w:World) (hcells:∀ (j:Nat) x,xs[j]? =some x→w.cell? ⟨bk,o+j,none⟩=some (.string x)) (hbk:bk<w.heap.size) (hN:xs.length≤140737488355328) (hcap:xs.length≤c) (hlen:(Lib.join (xs.map (·.data.toList)) sep.data.toList).length≤140737488355328) :
  Calls Tryz.prog 134 #[.slice (some ⟨bk,o,none⟩) xs.length c,.string sep] w fun e w'=>e=.returned (.string ⟨(Lib.join (xs.map (·.data.toList)) sep.data.toList).toArray⟩)∧Below w.heap.size w w':=Any.strings_Join Tryz.lays156 Tryz.Builder_Extra_156 bk o c xs sep w hcells hbk hN hcap hlen
def Tryz.lays171_ren:Go.Shelf.Ren:=⟨fun | 171=>226 | 243=>243 | 246=>267 | 283=>278 | 284=>279 | 285=>280 | 286=>281 | 129=>125 | 317=>286 | 318=>287 | 319=>288 | 320=>289 | 337=>291 | 338=>292 | n=>n,fun | 3=>3 | 9=>9 | 2=>2 | 4=>4 | 171=>333 | 0=>0 | 53=>196 | 37=>166 | 5=>5 | 173=>335 | 212=>340 | 51=>194 | 20=>20 | 213=>341 | 46=>131 | 232=>342 | 233=>343 | n=>n,fun | 17=>3 | 18=>4 | 19=>5 | n=>n⟩
theorem Tryz.lays171:Go.Proofs.Lays.n171 Tryz.prog Tryz.lays171_ren:={
 mixed:=by kernel_rfl
 f129:=Tryz.func125.trans (congrArg some (by kernel_rfl))
 f171:=Tryz.func226.trans (congrArg some (by kernel_rfl))
 f243:=Tryz.func243.trans (congrArg some (by kernel_rfl))
 f246:=Tryz.func267.trans (congrArg some (by kernel_rfl))
 f283:=Tryz.func278.trans (congrArg some (by kernel_rfl))
 f284:=Tryz.func279.trans (congrArg some (by kernel_rfl))
 f285:=Tryz.func280.trans (congrArg some (by kernel_rfl))
 f286:=Tryz.func281.trans (congrArg some (by kernel_rfl))
 f317:=Tryz.func286.trans (congrArg some (by kernel_rfl))
 f318:=Tryz.func287.trans (congrArg some (by kernel_rfl))
 f319:=Tryz.func288.trans (congrArg some (by kernel_rfl))
 f320:=Tryz.func289.trans (congrArg some (by kernel_rfl))
 f337:=Tryz.func291.trans (congrArg some (by kernel_rfl))
 f338:=Tryz.func292.trans (congrArg some (by kernel_rfl))
 t0:=Tryz.underlying0
 a0:=Tryz.isAgg0
 z0:=Tryz.sizeOf0
 v0:=Tryz.zeroValue0
 t2:=Tryz.underlying2
 a2:=Tryz.isAgg2
 z2:=Tryz.sizeOf2
 v2:=Tryz.zeroValue2
 t3:=Tryz.underlying3
 a3:=Tryz.isAgg3
 z3:=Tryz.sizeOf3
 v3:=Tryz.zeroValue3
 t4:=Tryz.underlying4
 a4:=Tryz.isAgg4
 z4:=Tryz.sizeOf4
 v4:=Tryz.zeroValue4
 t5:=Tryz.underlying5
 a5:=Tryz.isAgg5
 z5:=Tryz.sizeOf5
 v5:=Tryz.zeroValue5
 t9:=Tryz.underlying9
 a9:=Tryz.isAgg9
 z9:=Tryz.sizeOf9
 v9:=Tryz.zeroValue9
 t20:=Tryz.underlying20
 a20:=Tryz.isAgg20
 z20:=Tryz.sizeOf20
 v20:=Tryz.zeroValue20
 t37:=Tryz.underlying166
 a37:=Tryz.isAgg166
 z37:=Tryz.sizeOf166
 v37:=Tryz.zeroValue166
 t46:=Tryz.underlying131
 a46:=Tryz.isAgg131
 z46:=Tryz.sizeOf131
 v46:=Tryz.zeroValue131
 t51:=Tryz.underlying194
 a51:=Tryz.isAgg194
 z51:=Tryz.sizeOf194
 v51:=Tryz.zeroValue194
 t53:=Tryz.underlying196
 a53:=Tryz.isAgg196
 z53:=Tryz.sizeOf196
 v53:=Tryz.zeroValue196
 t171:=Tryz.underlying333
 a171:=Tryz.isAgg333
 z171:=Tryz.sizeOf333
 v171:=Tryz.zeroValue333
 t173:=Tryz.underlying335
 a173:=Tryz.isAgg335
 z173:=Tryz.sizeOf335
 v173:=Tryz.zeroValue335
 t212:=Tryz.underlying340
 a212:=Tryz.isAgg340
 z212:=Tryz.sizeOf340
 v212:=Tryz.zeroValue340
 t213:=Tryz.underlying341
 a213:=Tryz.isAgg341
 z213:=Tryz.sizeOf341
 t232:=Tryz.underlying342
 a232:=Tryz.isAgg342
 z232:=Tryz.sizeOf342
 v232:=Tryz.zeroValue342
 t233:=Tryz.underlying343
 a233:=Tryz.isAgg343
 z233:=Tryz.sizeOf343
 v233:=Tryz.zeroValue343
 g17:=by kernel_rfl
 g18:=by kernel_rfl
 g19:=by kernel_rfl }
open Go.RowKit Go.Sort Go.Lib in
theorem Tryz.strconv_Itoa_small (i:Nat) (hi:i<100) (w:World) :
  Calls Tryz.prog 226 #[.int .i64 i] w fun e w'=>e=.returned (.string ⟨(Lib.decDigits i).toArray⟩)∧w'=w:=Any.strconv_Itoa_small Tryz.lays171 i hi w
def Tryz.lays217_ren:Go.Shelf.Ren:=⟨fun | 217=>213 | 266=>228 | n=>n,fun | 9=>9 | 5=>5 | 3=>3 | n=>n,fun | n=>n⟩
theorem Tryz.lays217:Go.Proofs.Lays.n217 Tryz.prog Tryz.lays217_ren:={
 mixed:=by kernel_rfl
 f217:=Tryz.func213.trans (congrArg some (by kernel_rfl))
 f266:=Tryz.func228.trans (congrArg some (by kernel_rfl))
 t3:=Tryz.underlying3
 a3:=Tryz.isAgg3
 z3:=Tryz.sizeOf3
 v3:=Tryz.zeroValue3
 t5:=Tryz.underlying5
 a5:=Tryz.isAgg5
 z5:=Tryz.sizeOf5
 v5:=Tryz.zeroValue5
 t9:=Tryz.underlying9
 a9:=Tryz.isAgg9
 z9:=Tryz.sizeOf9
 v9:=Tryz.zeroValue9 }
open Go.RowKit Go.Lib in
theorem Tryz.stringslite_IndexByte (s:ByteArray) (c:Int) (w:World) :
  Calls Tryz.prog 213 #[.string s,.int .u8 c] w fun e w'=>e=.returned (.int .i64 (Lib.indexByte s.data.toList c.toNat.toUInt8))∧w'=w:=Any.stringslite_IndexByte Tryz.lays217 s c w
def Tryz.lays219_ren:Go.Shelf.Ren:=⟨fun | 219=>183 | 217=>213 | 225=>214 | 224=>215 | 267=>216 | 266=>228 | 314=>229 | n=>n,fun | 9=>9 | 3=>3 | 4=>4 | 5=>5 | 46=>131 | 146=>298 | 51=>194 | n=>n,fun | 1=>0 | n=>n⟩
theorem Tryz.lays219:Go.Proofs.Lays.n219 Tryz.prog Tryz.lays219_ren:={
 mixed:=by kernel_rfl
 f217:=Tryz.func213.trans (congrArg some (by kernel_rfl))
 f219:=Tryz.func183.trans (congrArg some (by kernel_rfl))
 f224:=Tryz.func215.trans (congrArg some (by kernel_rfl))
 f225:=Tryz.func214.trans (congrArg some (by kernel_rfl))
 f266:=Tryz.func228.trans (congrArg some (by kernel_rfl))
 f267:=Tryz.func216.trans (congrArg some (by kernel_rfl))
 f314:=Tryz.func229.trans (congrArg some (by kernel_rfl))
 t3:=Tryz.underlying3
 a3:=Tryz.isAgg3
 z3:=Tryz.sizeOf3
 v3:=Tryz.zeroValue3
 t4:=Tryz.underlying4
 a4:=Tryz.isAgg4
 z4:=Tryz.sizeOf4
 v4:=Tryz.zeroValue4
 t5:=Tryz.underlying5
 a5:=Tryz.isAgg5
 z5:=Tryz.sizeOf5
 v5:=Tryz.zeroValue5
 t9:=Tryz.underlying9
 a9:=Tryz.isAgg9
 z9:=Tryz.sizeOf9
 v9:=Tryz.zeroValue9
 t46:=Tryz.underlying131
 a46:=Tryz.isAgg131
 z46:=Tryz.sizeOf131
 v46:=Tryz.zeroValue131
 t51:=Tryz.underlying194
 a51:=Tryz.isAgg194
 z51:=Tryz.sizeOf194
 v51:=Tryz.zeroValue194
 t146:=Tryz.underlying298
 a146:=Tryz.isAgg298
 z146:=Tryz.sizeOf298
 v146:=Tryz.zeroValue298
 g1:=by kernel_rfl }
open Go.RowKit Go.Lib in
theorem Tryz.stringslite_Index_one (s:ByteArray) (c:UInt8) (w:World) :
  Calls Tryz.prog 183 #[.string s,.string ⟨#[c]⟩] w fun e w'=>e=.returned (.int .i64 (Lib.indexByte s.data.toList c))∧w'=w:=Any.stringslite_Index_one Tryz.lays219 s c w
def Tryz.lays138_ren:Go.Shelf.Ren:=⟨fun | 138=>129 | 195=>180 | 218=>182 | 143=>130 | 219=>183 | 217=>213 | 225=>214 | 224=>215 | 267=>216 | 266=>228 | 314=>229 | n=>n,fun | 9=>9 | 3=>3 | 4=>4 | 5=>5 | 0=>0 | 46=>131 | 146=>298 | 51=>194 | n=>n,fun | 1=>0 | n=>n⟩
theorem Tryz.lays138:Go.Proofs.Lays.n138 Tryz.prog Tryz.lays138_ren:={
 mixed:=by kernel_rfl
 f138:=Tryz.func129.trans (congrArg some (by kernel_rfl))
 f143:=Tryz.func130.trans (congrArg some (by kernel_rfl))
 f195:=Tryz.func180.trans (congrArg some (by kernel_rfl))
 f217:=Tryz.func213.trans (congrArg some (by kernel_rfl))
 f218:=Tryz.func182.trans (congrArg some (by kernel_rfl))
 f219:=Tryz.func183.trans (congrArg some (by kernel_rfl))
 f224:=Tryz.func215.trans (congrArg some (by kernel_rfl))
 f225:=Tryz.func214.trans (congrArg some (by kernel_rfl))
 f266:=Tryz.func228.trans (congrArg some (by kernel_rfl))
 f267:=Tryz.func216.trans (congrArg some (by kernel_rfl))
 f314:=Tryz.func229.trans (congrArg some (by kernel_rfl))
 t0:=Tryz.underlying0
 a0:=Tryz.isAgg0
 z0:=Tryz.sizeOf0
 v0:=Tryz.zeroValue0
 t3:=Tryz.underlying3
 a3:=Tryz.isAgg3
 z3:=Tryz.sizeOf3
 v3:=Tryz.zeroValue3
 t4:=Tryz.underlying4
 a4:=Tryz.isAgg4
 z4:=Tryz.sizeOf4
 v4:=Tryz.zeroValue4
 t5:=Tryz.underlying5
 a5:=Tryz.isAgg5
 z5:=Tryz.sizeOf5
 v5:=Tryz.zeroValue5
 t9:=Tryz.underlying9
 a9:=Tryz.isAgg9
 z9:=Tryz.sizeOf9
 v9:=Tryz.zeroValue9
 t46:=Tryz.underlying131
 a46:=Tryz.isAgg131
 z46:=Tryz.sizeOf131
 v46:=Tryz.zeroValue131
 t51:=Tryz.underlying194
 a51:=Tryz.isAgg194
 z51:=Tryz.sizeOf194
 v51:=Tryz.zeroValue194
 t146:=Tryz.underlying298
 a146:=Tryz.isAgg298
 z146:=Tryz.sizeOf298
 v146:=Tryz.zeroValue298
 g1:=by kernel_rfl }
open Go.RowKit Go.Lib in
theorem Tryz.strings_Count_one (s:ByteArray) (c:UInt8) (w:World) :
  Calls Tryz.prog 129 #[.string s,.string ⟨#[c]⟩] w fun e w'=>e=.returned (.int .i64 (Lib.countByte s.data.toList c))∧w'=w:=Any.strings_Count_one Tryz.lays138 s c w
end Go.Proofs
namespace Go.Ab
open Go
theorem zXS {s:ByteArray} {c:UInt8} (h:s.data.toList=[c]):s=⟨#[c]⟩:=by
 obtain ⟨⟨l⟩⟩:=s
 simp only at h;rw [h]
def zDb:List AV→z0B→Option AV
 | [.str s,.str [c]],_=>some (.int .i64 (Lib.countByte s c))
 | _,_=>none
theorem z6J {φ:Phi} {σ:Sig} {a b:AV} {cargs:Array Value} (h:z8N φ σ [a,b] cargs):∃ x y,cargs = #[x,y]∧VRel φ σ a x∧VRel φ σ b y:=by
 obtain ⟨hl,hr⟩:=h
 obtain ⟨l⟩:=cargs
 match l,hl with
 | [x,y],_=>exact ⟨x,y,rfl,by simpa using hr 0,by simpa using hr 1⟩
theorem zPr (args:List AV) (H:z0B) (v:AV) (h:zDb args H=some v):z0D Proofs.Tryz.prog 129 args H (fun r H'=>r=.ret v∧H'=H):=by
 unfold zDb at h
 split at h
 ·rename_i s c
  injection h with h;subst h
  refine z5A fun φ σ cargs w hr hc=>?_
  obtain ⟨x,y,rfl,hx,hy⟩:=z6J hc
  cases hx with
  | str _ a ha=>cases hy with
   | str _ b hb =>
    rw [zXS hb]
    refine (Proofs.Tryz.strings_Count_one a c w).mono ?_
    rintro e w' ⟨rfl,rfl⟩
    exact ⟨⟨_,rfl,by rw [ha];exact .int _ _⟩,rfl⟩
 ·cases h
def zDZ:List AV→z0B→Option AV
 | [.str s,.str [c]],_=>some (.int .i64 (Lib.indexByte s c))
 | _,_=>none
theorem zPe (args:List AV) (H:z0B) (v:AV) (h:zDZ args H=some v):z0D Proofs.Tryz.prog 183 args H (fun r H'=>r=.ret v∧H'=H):=by
 unfold zDZ at h
 split at h
 ·rename_i s c
  injection h with h;subst h
  refine z5A fun φ σ cargs w hr hc=>?_
  obtain ⟨x,y,rfl,hx,hy⟩:=z6J hc
  cases hx with
  | str _ a ha=>cases hy with
   | str _ b hb =>
    rw [zXS hb]
    refine (Proofs.Tryz.stringslite_Index_one a c w).mono ?_
    rintro e w' ⟨rfl,rfl⟩
    exact ⟨⟨_,rfl,by rw [ha];exact .int _ _⟩,rfl⟩
 ·cases h
def z6E:List AV→z0B→Option AV
 | [.str s,.int .u8 c],_=>some (.int .i64 (Lib.indexByte s c.toNat.toUInt8))
 | _,_=>none
theorem zFE (args:List AV) (H:z0B) (v:AV) (h:z6E args H=some v):z0D Proofs.Tryz.prog 213 args H (fun r H'=>r=.ret v∧H'=H):=by
 unfold z6E at h
 split at h
 ·rename_i s c
  injection h with h;subst h
  refine z5A fun φ σ cargs w hr hc=>?_
  obtain ⟨x,y,rfl,hx,hy⟩:=z6J hc
  cases hx with
  | str _ a ha=>cases hy with
   | int =>
    refine (Proofs.Tryz.stringslite_IndexByte a c w).mono ?_
    rintro e w' ⟨rfl,rfl⟩
    exact ⟨⟨_,rfl,by rw [ha];exact .int _ _⟩,rfl⟩
 ·cases h
theorem zSY:hasBody Proofs.Tryz.prog 129=true:=by unfold hasBody;rw [Go.Proofs.Tryz.func129];rfl
theorem zSX:hasBody Proofs.Tryz.prog 183=true:=by unfold hasBody;rw [Go.Proofs.Tryz.func183];rfl
theorem zSW:hasBody Proofs.Tryz.prog 213=true:=by unfold hasBody;rw [Go.Proofs.Tryz.func213];rfl
def zQT:z3M:=z7C 129 zDb (z7C 183 zDZ (z7C 213 z6E zLk))
theorem zLm:z4G Proofs.Tryz.prog zQT :=
 z4q (z4q (z4q zJn zSW zFE) zSX zPe) zSY zPr
end Go.Ab
namespace Go.Ab
open Go
variable {P:Program} {φ:Phi} {σ:Sig} {H:z0B} {w w':World}
theorem zBX (hr:HRel φ σ H w) (h:RowKit.Below w.heap.size w w'):Step φ σ H w φ σ H w':=by
 have hb:∀ k,k<w.heap.size→w'.heap[k]? =w.heap[k]?:=h.block
 refine ⟨.refl _,.refl _,h.os,h.tape,h.output,h.size,fun b hlt _=>hb b hlt,fun b hb=>.inr hb,?_⟩
 refine ⟨hr.dom,fun id L hL=>lD7 (hr.bnd id L hL) h.size,?_,hr.inj,?_,hr.resv⟩
 ·intro id b hg hl
  obtain ⟨L,h1,h2⟩:=hr.blk id b hg hl
  exact ⟨L,h1,h2.mono (.refl _) (.refl _) (fun _ _ _ h=>h) (hb _ (hr.bnd _ _ h1))⟩
 ·intro b o v hs
  have:=hr.sig b o v hs
  rw [World.cell?_of_block (hb b (World.block_lt_of_cell? w _ this))];exact this
theorem zGu {f:FuncId} {args:List AV} {v:AV} (h:∀ (φ:Phi) (σ:Sig) (cargs:Array Value) (w:World),HRel φ σ H w→z8N φ σ args cargs →
  Calls P f cargs w fun e w'=>(∃ c,e=.returned c∧VRel φ σ v c)∧RowKit.Below w.heap.size w w'):z0D P f args H (z1A H v):=by
 intro φ σ cargs w hr hc
 refine (h φ σ cargs w hr hc).mono ?_
 rintro e w' ⟨⟨c,rfl,hv⟩,hb⟩
 exact ⟨φ,σ,.ret v,H,zBX hr hb,.refl _,⟨c,rfl,hv⟩,rfl,rfl⟩
def zQp (l:List UInt8):ByteArray:=⟨l.toArray⟩
theorem zHA {l:List UInt8} {c:Value} (h:VRel φ σ (.str l) c):c=.string (zQp l):=by
 cases h with
 | str _ s hs=>subst hs;rfl
theorem zFB {x:AV} {n:Nat} {strs:List (List UInt8)} {sep:List UInt8} (hx:z1m 1 H x=some (n,strs.map .str)) (hn:strs.length≤140737488355328)
  (hlen:(Lib.join strs sep).length≤140737488355328):z0D Proofs.Tryz.prog 134 [x,.str sep] H (z1A H (.str (Lib.join strs sep))):=by
 refine zGu fun φ σ cargs w hr hc=>?_
 obtain ⟨u,v,rfl,hu,hv⟩:=z6J hc
 rw [zHA hv]
 have em:(strs.map zQp).map (fun b=>b.data.toList)=strs:=by
  rw [lB0];conv=>rhs;rw [←List.map_id strs]
  rfl
 have main:∀ (bk o cap:Nat),bk<w.heap.size→strs.length≤cap→(∀ j,j<strs.length→∃ c,w.cell? ⟨bk,o+j,none⟩=some c∧VRel φ σ ((strs.map AV.str).getD j .top) c) →
   Calls Proofs.Tryz.prog 134 #[.slice (some ⟨bk,o,none⟩) strs.length cap,.string (zQp sep)] w fun e w'=>(∃ c,e=.returned c∧VRel φ σ (.str (Lib.join strs sep)) c)∧RowKit.Below w.heap.size w w':=by
  intro bk o cap hbk hcap hcells
  have:=Proofs.Tryz.strings_Join bk o cap (strs.map zQp) (zQp sep) w (fun j x hj=>?_) hbk (by simpa using hn) (by simpa using hcap) (by rw [em];exact hlen)
  ·rw [em,lAE] at this
   refine this.mono ?_
   rintro e w' ⟨rfl,hb⟩
   exact ⟨⟨_,rfl,.str _ _ rfl⟩,hb⟩
  ·rw [lAM] at hj
   cases hs:strs[j]? with
   | none=>rw [hs] at hj;simp at hj
   | some l =>
    rw [hs] at hj;simp only [lBH] at hj;injection hj with hj;subst hj
    obtain ⟨c,h1,h2⟩:=hcells j (lAA.1 hs).1
    rw [lAB,lAM,hs] at h2
    rw [h1,zHA h2]
 unfold z1m at hx
 split at hx
 ·injection hx with hx;injection hx with h1 h2
  have:strs=[]:=by simpa using h2.symm
  subst this
  cases hu
  refine (Proofs.Tryz.strings_Join_none none 0 (zQp sep) w).mono ?_
  rintro e w' ⟨rfl,rfl⟩
  exact ⟨⟨_,rfl,.str _ _ rfl⟩,.refl _ _⟩
 ·rename_i id off m sz'
  split at hx
  ·rename_i e;subst e
   split at hx
   ·rename_i cs hg
    split at hx
    ·rename_i hle
     injection hx with hx;injection hx with h1 h2
     cases hu with
     | sl _ _ _ _ cap L hp hn hc =>
      obtain ⟨arr,t',fr,g1,g2,g3,g4,g5,g6⟩:=z3r hr hg hp
      have hml:m=strs.length:=by
       have:=congrArg List.length h2
       simp at this;omega
      subst hml
      refine main L.b (L.o+off) cap (hr.bnd _ _ hp) hn fun j hj=>⟨arr.getD (L.o+off+j) undef,?_,?_⟩
      ·have:=z1h (o:=L.o+off+j) g1
       unfold at_ at this
       rw [this,getD_some (by omega)]
      ·have:=g5 (off+j) (by omega)
       rw [←h2,z1z,if_pos (by omega),lBK];exact this
    ·cases hx
   ·cases hx
  ·cases hx
 ·rename_i sz' xs
  split at hx
  ·rename_i e;subst e
   injection hx with hx;injection hx with h1 h2
   cases hu with
   | list _ _ b o m cap f hsz hxl hn h r =>
    have hfl:(z0j xs).length=xs.length*1:=z0y hsz
    have hml:m=strs.length:=by
     have:=congrArg List.length h2
     rw [lAE] at this;omega
    subst hml
    have hbk:∀ j,j<strs.length→σ b (o+j)=some (f j):=fun j hj=>h j (by omega)
    by_cases h0:strs.length=0
    ·have:strs=[]:=List.length_eq_zero_iff.1 h0
     subst this
     refine (Proofs.Tryz.strings_Join_none _ cap (zQp sep) w).mono ?_
     rintro e w' ⟨rfl,rfl⟩
     exact ⟨⟨_,rfl,.str _ _ rfl⟩,.refl _ _⟩
    ·refine main b o cap (World.block_lt_of_cell? w _ (hr.sig _ _ _ (hbk 0 (by omega)))) hn fun j hj=>⟨f j,?_,?_⟩
     ·exact hr.sig _ _ _ (hbk j hj)
     ·have:=r j
      rw [h2] at this;exact this
   | elist _ a =>
    have:strs=[]:=by simpa [z0j] using h2.symm
    subst this
    refine (Proofs.Tryz.strings_Join_none _ _ (zQp sep) w).mono ?_
    rintro e w' ⟨rfl,rfl⟩
    exact ⟨⟨_,rfl,.str _ _ rfl⟩,.refl _ _⟩
  ·cases hx
 ·cases hx
def zNh:List AV→Option (List (List UInt8))
 | []=>some []
 | .str s::l=>match zNh l with
  | some r=>some (s::r)
  | none=>none
 | _=>none
theorem zHD:∀ {l:List AV} {r:List (List UInt8)},zNh l=some r→l=r.map .str
 | [],r,h=>by injection h with h;subst h;rfl
 | v::l,r,h=>by
  cases v<;>simp only [zNh] at h<;>try cases h
  split at h
  ·rename_i q hq;injection h with h;subst h;rw [zHD hq];rfl
  ·cases h
def zGr:List AV→z0B→Option AV
 | [x,.str sep],H=>match z1m 1 H x with
  | some (_,ys)=>match zNh ys with
   | some strs=>if strs.length≤1000∧(Lib.join strs sep).length≤1000 then some (.str (Lib.join strs sep)) else none
   | none=>none
  | none=>none
 | _,_=>none
theorem zRk (args:List AV) (H:z0B) (v:AV) (h:zGr args H=some v):z0D Proofs.Tryz.prog 134 args H (fun r H'=>r=.ret v∧H'=H):=by
 unfold zGr at h
 split at h
 ·rename_i x sep
  split at h
  ·rename_i n ys hs
   split at h
   ·rename_i strs hu
    split at h
    ·rename_i hc
     injection h with h;subst h
     rw [zHD hu] at hs
     exact zFB hs (by omega) (by omega)
    ·cases h
   ·cases h
  ·cases h
 ·cases h
theorem zXN:hasBody Proofs.Tryz.prog 134=true:=by unfold hasBody;rw [Go.Proofs.Tryz.func134];rfl
end Go.Ab
