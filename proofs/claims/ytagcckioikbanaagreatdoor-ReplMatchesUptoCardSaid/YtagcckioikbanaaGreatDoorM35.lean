/- Part 35 of the proof. -/
import Derived.Test.YtagcckioikbanaaGreatDoorM20
import Derived.Test.YtagcckioikbanaaGreatDoorM27
import Derived.Test.YtagcckioikbanaaGreatDoorM29
set_option linter.unusedVariables false
set_option linter.unusedSimpArgs false
namespace Go.Ab
open Go
set_option maxRecDepth 1000000
def zXJ (f:Nat):Bool:=Nat.beq f 134||Nat.beq f 15||Nat.beq f 17||Nat.beq f 36||Nat.beq f 77||Nat.beq f 78||Nat.beq f 80||Nat.beq f 81||Nat.beq f 39||Nat.beq f 41||Nat.beq f 149||Nat.beq f 83||Nat.beq f 84||Nat.beq f 7
noncomputable def zXZ:FuncId→Option IFunc:=fun f=>bif zXJ f then none else tab.get f
theorem zKu:∀ f F,zXZ f=some F→∃ anns,Is QQ f anns F:=by
 intro f F h
 unfold zXZ at h
 cases hd:zXJ f with
 | true=>rw [hd] at h;cases h
 | false=>rw [hd] at h;exact FT.ok_get zSs f F h
theorem z0t {call:z3M} (hc:z4G QQ call) {f:FuncId} {F:IFunc} {anns:List Ann} (hF:Is QQ f anns F) {args:List AV} {H K:z0B} {r:ARes} (js:List Nat)
  (h:(Nat.ble args.length F.n&&zXg call 300 F args H (zXG js r H K))=true):OE.ok QQ ⟨f,args,H,r,K⟩:=by
 rw [lAQ] at h
 refine ⟨hF.hasBody,z0D.ren (hF.call z0R mixed h.1 (zCT hc h.2 ?_))⟩
 intro r' H' q
 unfold zXG at q
 rw [lAQ] at q
 exact ⟨_,zLd q.2,zPE q.1⟩
def zSB:AV:=.tuple [.agg [.int .i64 0,.str [98],.nilslice],.int .i64 0,.int .i64 0]
def zDa:List AV→z0B→Option AV
 | [.str [98]],_=>some zSB
 | _,_=>none
noncomputable def zXz:z3M:=z7C 134 zGr zQT
theorem zLn:z4G QQ zXz:=z4q zLm zXN zRk
theorem zPz:hasBody QQ 217=true:=by unfold hasBody;rw [Go.Proofs.Tryz.func217];rfl
theorem zXx:zLX (zQB zXZ 300 zXz 40) [98] zSB=true:=by kernel_rfl
theorem zXE (H:z0B):z0D QQ 217 [.str [98]] H (z1A H zSB) :=
 z0D.over (n:=4) (m:=2) (K:=[]) rfl rfl (zLW (z7P z0R mixed zLn zKu 40) ⟨4,rfl⟩ zXx)
theorem zGs (args:List AV) (H:z0B) (v:AV) (h:zDa args H=some v):z0D QQ 217 args H (fun r H'=>r=.ret v∧H'=H):=by
 unfold zDa at h
 split at h
 ·injection h with h;subst h;exact zXE H
 ·cases h
noncomputable def orc2:z3M:=z7C 217 zDa zXz
theorem zRT:z4G QQ orc2:=z4q zLn zPz zGs
noncomputable def zSS (es:List OE):z3M:=zQB zXZ 300 (zPN es orc2) 60
theorem z0m {es:List OE} (h:∀ e∈es,e.ok QQ):z4G QQ (zSS es):=z7P z0R mixed (zHa zRT h) zKu 60
end Go.Ab
namespace Go.Ab
open Go
set_option maxRecDepth 1000000
def k0:Blk:=.cells [(.int .i64 2),(.sl 2 0 1 2),(.sl 3 0 1 6),(.bool true)]
def k1:Blk:=.cells [(.bool false),(.bool false),(.bool false),(.bool false)]
def k2:Blk:=.cells [(.int .i64 0),(.str [98]),.nilslice,(.int .i64 2),(.str []),.nilslice]
def k3:Blk:=.cells [(.int .i64 0)]
def k4:Blk:=.cells [(.int .i64 1)]
def k5:Blk:=.cells [(.clo (.func 49) [] [(.ptr 27 0),(.ptr 30 0)])]
def k6:Blk:=.cells [(.clo (.func 51) [] [(.ptr 27 0),(.ptr 31 0)])]
def k7:Blk:=.cells [(.int .u8 1)]
def k8:Blk:=.cells [(.sl 0 0 1 1),(.sl 1 0 1 1)]
def k9:Blk:=.cells [(.str [0]),(.str [1])]
def k10:Blk:=.cells [(.int .i64 0),(.int .i64 2)]
def k11:Blk:=.cells [(.int .i64 0),(.int .i64 3)]
def k12:Blk:=.cells [(.int .i64 0),(.str [98]),.nilslice]
def k13:Blk:=.cells [(.int .u8 0)]
def k14:Blk:=.cells [(.int .i64 2),(.str []),.nilslice]
def k15:Blk:=.cells [(.int .i64 2),(.int .i64 1),(.int .i64 1),(.int .i64 0)]
def k16:Blk:=.cells [(.str [97]),(.str [98])]
def k17:Blk:=.cells [(.int .i64 0),(.int .i64 0),(.int .i64 0),(.int .i64 0)]
def k18:Blk:=.cells [(.int .i64 3),(.int .i64 1),(.int .i64 1),(.int .i64 0)]
def k19:Blk:=.cells [(.int .i64 0),(.int .i64 0),(.str [1]),.nilslice]
def k20:Blk:=.cells [(.int .i64 1),(.int .i64 2),(.str []),.nilslice]
def k21:Blk:=.cells [(.str [98]),(.str [97]),(.str [97])]
def k22:Blk:=.cells [(.sl 24 0 1 2),(.sl 43 0 1 1),(.sl 45 0 1 1)]
def k23:Blk:=.cells [(.int .i64 1),(.int .i64 0),(.int .i64 0)]
def k24:Blk:=.cells [(.int .i64 1),(.int .i64 1),(.int .i64 1),(.int .i64 0)]
def k25:Blk:=.cells [(.int .u8 1),(.int .u8 0),(.int .u8 0)]
def k26:Blk:=.cells [(.ptr 26 0)]
def k27:Blk:=.cells [(.str [98])]
def k28:Blk:=.cells [(.int .i64 0),(.int .i64 1),(.int .i64 0),(.int .i64 0)]
def k29:Blk:=.cells [(.int .i64 (-1)),(.int .i64 1)]
def k30:Blk:=.cells [(.sl 60 0 2 1),(.sl 62 0 4 1),(.sl 63 0 4 1),(.sl 64 0 4 1)]
def k33:Blk:=.cells [(.ptr 11 0)]
def k34:Blk:=.cells [(.sl 61 0 1 4),.nilslice,(.sl 65 0 1 4),(.sl 66 0 1 4)]
def k35:Blk:=.cells [(.map 25),(.int .i64 2)]
def k36:Blk:=.cells [(.int .i64 0),(.int .i64 0)]
def k37:Blk:=.cells [(.str [0])]
def k38:Blk:=.cells [(.sl 6 0 3 1)]
def k39:Blk:=.cells [(.int .i64 1),(.int .i64 1)]
def k40:Blk:=.cells [(.int .i64 2),(.int .i64 2)]
def k41:Blk:=.cells [(.str [97])]
def k42:Blk:=.cells [(.int .i64 0),(.str [1])]
def k43:Blk:=.cells [(.int .i64 1),(.str [])]
def k44:Blk:=.cells [(.sl 5 0 2 1)]
def k45:Blk:=.cells [(.clo (.func 202) [] [(.ptr 119 0),(.ptr 120 0)])]
def k46:Blk:=.cells [(.clo (.func 202) [] [(.ptr 71 0),(.ptr 72 0)])]
def k47:Blk:=.cells [(.clo (.func 202) [] [(.ptr 85 0),(.ptr 86 0)])]
def k48:Blk:=.cells [(.clo (.func 202) [] [(.ptr 93 0),(.ptr 94 0)])]
def k49:Blk:=.cells [(.ptr 33 0)]
def k50:Blk:=.cells [(.ptr 41 0)]
def k51:Blk:=.cells [(.int .i64 0),(.int .i64 1),(.int .i64 1),(.int .i64 0)]
def k52:Blk:=.cells [(.map 62),(.map 63),(.map 64),(.map 65)]
def k53:Blk:=.cells [(.int .i64 0),(.str [1,1])]
def k54:Blk:=.cells [(.str [])]
def k55:Blk:=.cells [(.sl 71 0 2 1),(.sl 67 0 4 1),(.sl 68 0 4 1),(.sl 69 0 4 1)]
def k56:Blk:=.cells [(.int .i64 0),(.str [])]
def k57:Blk:=.cells [.nilslice,(.sl 80 0 1 4),(.sl 74 0 1 4),(.sl 77 0 1 4)]
def k58:Blk:=.cells [(.str [1,0,0])]
def k59:Blk:=.cells [(.sl 107 0 1 1)]
def k60:Blk:=.cells [(.sl 139 0 1 1)]
def k61:Blk:=.cells [(.sl 150 0 2 1),(.sl 151 0 2 1),(.sl 152 0 2 1),(.sl 153 0 2 1)]
def k62:Blk:=.cells [(.str [0,0])]
def k63:Blk:=.cells [(.str [1,1])]
def k64:Blk:=.cells [(.str [1])]
def k65:Blk:=.cells [.nilslice,.nilslice,.nilslice,.nilslice]
def k66:Blk:=.cells [(.sl 150 0 2 1),(.sl 146 0 1 1),(.sl 147 0 1 1),(.sl 148 0 1 1)]
def k67:Blk:=.cells [(.sl 150 0 2 1),(.sl 155 0 3 1),(.sl 156 0 3 1),(.sl 157 0 3 1)]
def k68:Blk:=.cells [(.bool false),(.bool true),(.bool false),(.bool false)]
def k69:Blk:=.cells [(.bool false),(.bool false),(.bool false),(.bool true)]
def k70:Blk:=.cells [(.bool false),(.bool false),(.bool true),(.bool false)]
def k71:Blk:=.cells [(.bool true),(.bool false),(.bool false),(.bool false)]
def k72:Blk:=.cells [.nilslice]
def k73:Blk:=.cells [(.int .i64 0),(.int .i64 1),(.int .i64 0)]
def k74:Blk:=.cells [(.int .i64 0),(.int .i64 0),(.int .i64 0)]
def k75:Blk:=.cells [(.int .i64 4)]
def k76:Blk:=.cells [.nilslice,.nilslice]
def k77:Blk:=.cells [(.ptr 70 0)]
def k78:Blk:=.cells [(.ptr 59 0)]
def k81:Blk:=.cells [(.int .i64 0),(.int .i64 1)]
def h0:z0B:=[k41,k27,k8,k2,k0,k16,k21,k0,k38,k0,k0,k8,k8,k8,k2,k2,k12,k12,k12,k12,k12,k27,k14,k14,k14,k14,k14,k8,k2,k12,k14,k0]
def h1:z0B:=[k41,k27,k8,k2,k0,k16,k21,k0,k38,k0,k0,k8,k8,k8,k2,k2,k12,k12,k12,k12,k12,k27,k14,k14,k14,k14,k14,k8,k2,k12,k14]
def h2:z0B:=[k41,k27,k8,k2,k0,k16,k21,k0,k38]
def kn0:OE:=⟨15,[(.str [97,32,64,45,62,32,98,32,47,47,32,98,32,95])],[],(.ret (.tuple [(.agg [(.int .i64 2),(.sl 2 0 1 2),(.sl 3 0 1 6),(.bool true)]),(.int .i64 0),(.int .i64 0)])),[k41,k27,k8,k2]⟩
theorem zTa:kn0.ok QQ:=by
 refine z0t (z0m (es:=[]) ?_) is15 [6,10,13,26] ?_
 ·intro e he;cases he
 ·kernel_rfl
def kn1:OE:=⟨39,[(.sl 5 0 2 1)],h1,(.ret (.int .i64 0)),h1⟩
theorem zTZ:kn1.ok QQ:=by
 refine z0t (z0m (es:=[]) ?_) zYM [] ?_
 ·intro e he;cases he
 ·kernel_rfl
def kn2:OE:=⟨41,[(.sl 31 0 1 4),(.sl 5 0 2 1),(.sl 6 0 3 1)],h0,(.ret (.bool false)),h0⟩
theorem zTY:kn2.ok QQ:=by
 refine z0t (z0m (es:=[]) ?_) zYL [] ?_
 ·intro e he;cases he
 ·kernel_rfl
def kn3:OE:=⟨17,[(.agg [(.int .i64 2),(.sl 2 0 1 2),(.sl 3 0 1 6),(.bool true)]),(.sl 5 0 2 1),(.sl 8 0 1 1)],h2,(.ret (.int .i64 0)),h2⟩
theorem zTX:kn3.ok QQ:=by
 refine z0t (z0m (es:=[kn1,kn2]) ?_) zYx [] ?_
 ·intro e he
  simp only [lAT,lA5,or_false] at he
  rcases he with rfl | rfl
  ·exact zTZ
  ·exact zTY
 ·kernel_rfl
def kn4:OE:=⟨78,[(.sl 5 0 2 1),(.int .i64 1)],[k41,k27,k8,k2,k0,k16,k21,k0,k38,k0,k44,k22,k8,.dead,k3,k3,k13,k13,.dead,k4,k4,k7,k7,k9,k9,.map [((.agg [(.int .i64 0),(.str [])]),(.bool false),0),((.agg [(.int .i64 0),(.str [1])]),(.bool true),1),((.agg [(.int .i64 1),(.str [])]),(.bool true),2),((.agg [(.int .i64 0),(.str [1,1])]),(.bool false),3)] 4,k35,k26,k0,k2,k49,k50,k12,k19,k27,.dead,k4,k4,k7,k7,k14,k20,k5,k5,k6,k6,.dead,k4,.dead,k3,.dead,k3,k23,k7,.dead,k13,.dead,k13,k25,k0,k0,k52,.map [((.str []),(.bool true),0)] 1,.map [((.str [1]),(.bool true),0)] 1,.map [((.str [1,1]),(.bool true),0)] 1,.map [((.str [1,1,1]),(.bool true),0)] 1,.iter (some 62) 1 [0] 1,k36,k33,k58,k56,k26,k54,k46,k9,k37,k36,k29,k29,k29,.iter (some 63) 1 [0] 1,k39,k33,k62,k42,k26,k64,k47,k3,k3,k9,k37,k43,k26,k54,k48,k3,k3,k10,k10,k39,k10,k3,k3,k33,k4,.dead,k3,k59,.dead,k10,k10,k10,k10,.iter (some 64) 1 [0] 1,k40,k33,k37,k53,k26,k63,k45,k42,k3,k3,k9,k37,k43,k3,k3,k11,k11,k40,k11,k3,k3,k33,k4,.dead,k3,k60,.dead,k11,k11,k11,k11],(.ret (.ptr 149 0)),[k41,k27,k8,k2,k0,k16,k21,k0,k38,k0,k44,k22,k8,.dead,k3,k3,k13,k13,.dead,k4,k4,k7,k7,k9,k9,.map [((.agg [(.int .i64 0),(.str [])]),(.bool false),0),((.agg [(.int .i64 0),(.str [1])]),(.bool true),1),((.agg [(.int .i64 1),(.str [])]),(.bool true),2),((.agg [(.int .i64 0),(.str [1,1])]),(.bool false),3)] 4,k35,k26,k0,k2,k49,k50,k12,k19,k27,.dead,k4,k4,k7,k7,k14,k20,k5,k5,k6,k6,.dead,k4,.dead,k3,.dead,k3,k23,k7,.dead,k13,.dead,k13,k25,k0,k0,k52,.map [((.str []),(.bool true),0)] 1,.map [((.str [1]),(.bool true),0)] 1,.map [((.str [1,1]),(.bool true),0)] 1,.map [((.str [1,1,1]),(.bool true),0)] 1,.iter (some 62) 1 [0] 1,k36,k33,k58,k56,k26,k54,k46,k9,k37,k36,k29,k29,k29,.iter (some 63) 1 [0] 1,k39,k33,k62,k42,k26,k64,k47,k3,k3,k9,k37,k43,k26,k54,k48,k3,k3,k10,k10,k39,k10,k3,k3,k33,k4,.dead,k3,k59,.dead,k10,k10,k10,k10,.iter (some 64) 1 [0] 1,k40,k33,k37,k53,k26,k63,k45,k42,k3,k3,k9,k37,k43,k3,k3,k11,k11,k40,k11,k3,k3,k33,k4,.dead,k3,k60,.dead,k11,k11,k11,k11,k72,k3,k3,k66,k16]⟩
theorem zTW:kn4.ok QQ:=by
 refine z0t (z0m (es:=[]) ?_) zTc [146,147,148,149,151] ?_
 ·intro e he;cases he
 ·kernel_rfl
def kn5:OE:=⟨80,[(.ptr 149 0)],[k41,k27,k8,k2,k0,k16,k21,k0,k38,k0,k44,k22,k8,.dead,k3,k3,k13,k13,.dead,k4,k4,k7,k7,k9,k9,.map [((.agg [(.int .i64 0),(.str [])]),(.bool false),0),((.agg [(.int .i64 0),(.str [1])]),(.bool true),1),((.agg [(.int .i64 1),(.str [])]),(.bool true),2),((.agg [(.int .i64 0),(.str [1,1])]),(.bool false),3)] 4,k35,k26,k0,k2,k49,k50,k12,k19,k27,.dead,k4,k4,k7,k7,k14,k20,k5,k5,k6,k6,.dead,k4,.dead,k3,.dead,k3,k23,k7,.dead,k13,.dead,k13,k25,k0,k0,k52,.map [((.str []),(.bool true),0)] 1,.map [((.str [1]),(.bool true),0)] 1,.map [((.str [1,1]),(.bool true),0)] 1,.map [((.str [1,1,1]),(.bool true),0)] 1,.iter (some 62) 1 [0] 1,k36,k33,k58,k56,k26,k54,k46,k9,k37,k36,k29,k29,k29,.iter (some 63) 1 [0] 1,k39,k33,k62,k42,k26,k64,k47,k3,k3,k9,k37,k43,k26,k54,k48,k3,k3,k10,k10,k39,k10,k3,k3,k33,k4,.dead,k3,k59,.dead,k10,k10,k10,k10,.iter (some 64) 1 [0] 1,k40,k33,k37,k53,k26,k63,k45,k42,k3,k3,k9,k37,k43,k3,k3,k11,k11,k40,k11,k3,k3,k33,k4,.dead,k3,k60,.dead,k11,k11,k11,k11,k72,k3,k3,k66,k16],(.ret (.int .i64 1)),[k41,k27,k8,k2,k0,k16,k21,k0,k38,k0,k44,k22,k8,.dead,k3,k3,k13,k13,.dead,k4,k4,k7,k7,k9,k9,.map [((.agg [(.int .i64 0),(.str [])]),(.bool false),0),((.agg [(.int .i64 0),(.str [1])]),(.bool true),1),((.agg [(.int .i64 1),(.str [])]),(.bool true),2),((.agg [(.int .i64 0),(.str [1,1])]),(.bool false),3)] 4,k35,k26,k0,k2,k49,k50,k12,k19,k27,.dead,k4,k4,k7,k7,k14,k20,k5,k5,k6,k6,.dead,k4,.dead,k3,.dead,k3,k23,k7,.dead,k13,.dead,k13,k25,k0,k0,k52,.map [((.str []),(.bool true),0)] 1,.map [((.str [1]),(.bool true),0)] 1,.map [((.str [1,1]),(.bool true),0)] 1,.map [((.str [1,1,1]),(.bool true),0)] 1,.iter (some 62) 1 [0] 1,k36,k33,k58,k56,k26,k54,k46,k9,k37,k36,k29,k29,k29,.iter (some 63) 1 [0] 1,k39,k33,k62,k42,k26,k64,k47,k3,k3,k9,k37,k43,k26,k54,k48,k3,k3,k10,k10,k39,k10,k3,k3,k33,k4,.dead,k3,k59,.dead,k10,k10,k10,k10,.iter (some 64) 1 [0] 1,k40,k33,k37,k53,k26,k63,k45,k42,k3,k3,k9,k37,k43,k3,k3,k11,k11,k40,k11,k3,k3,k33,k4,.dead,k3,k60,.dead,k11,k11,k11,k11,.dead,.dead,.dead,k61,k16,k76,k36,k36]⟩
theorem zTV:kn5.ok QQ:=by
 refine z0t (z0m (es:=[]) ?_) zXb [154,155,156] ?_
 ·intro e he;cases he
 ·kernel_rfl
def kn6:OE:=⟨80,[(.ptr 149 0)],[k41,k27,k8,k2,k0,k16,k21,k0,k38,k0,k44,k22,k8,.dead,k3,k3,k13,k13,.dead,k4,k4,k7,k7,k9,k9,.map [((.agg [(.int .i64 0),(.str [])]),(.bool false),0),((.agg [(.int .i64 0),(.str [1])]),(.bool true),1),((.agg [(.int .i64 1),(.str [])]),(.bool true),2),((.agg [(.int .i64 0),(.str [1,1])]),(.bool false),3)] 4,k35,k26,k0,k2,k49,k50,k12,k19,k27,.dead,k4,k4,k7,k7,k14,k20,k5,k5,k6,k6,.dead,k4,.dead,k3,.dead,k3,k23,k7,.dead,k13,.dead,k13,k25,k0,k0,k52,.map [((.str []),(.bool true),0)] 1,.map [((.str [1]),(.bool true),0)] 1,.map [((.str [1,1]),(.bool true),0)] 1,.map [((.str [1,1,1]),(.bool true),0)] 1,.iter (some 62) 1 [0] 1,k36,k33,k58,k56,k26,k54,k46,k9,k37,k36,k29,k29,k29,.iter (some 63) 1 [0] 1,k39,k33,k62,k42,k26,k64,k47,k3,k3,k9,k37,k43,k26,k54,k48,k3,k3,k10,k10,k39,k10,k3,k3,k33,k4,.dead,k3,k59,.dead,k10,k10,k10,k10,.iter (some 64) 1 [0] 1,k40,k33,k37,k53,k26,k63,k45,k42,k3,k3,k9,k37,k43,k3,k3,k11,k11,k40,k11,k3,k3,k33,k4,.dead,k3,k60,.dead,k11,k11,k11,k11,.dead,.dead,.dead,k61,k16,k76,k81,k36,.iter (some 65) 1 [0] 1],(.ret (.int .i64 2)),[k41,k27,k8,k2,k0,k16,k21,k0,k38,k0,k44,k22,k8,.dead,k3,k3,k13,k13,.dead,k4,k4,k7,k7,k9,k9,.map [((.agg [(.int .i64 0),(.str [])]),(.bool false),0),((.agg [(.int .i64 0),(.str [1])]),(.bool true),1),((.agg [(.int .i64 1),(.str [])]),(.bool true),2),((.agg [(.int .i64 0),(.str [1,1])]),(.bool false),3)] 4,k35,k26,k0,k2,k49,k50,k12,k19,k27,.dead,k4,k4,k7,k7,k14,k20,k5,k5,k6,k6,.dead,k4,.dead,k3,.dead,k3,k23,k7,.dead,k13,.dead,k13,k25,k0,k0,k52,.map [((.str []),(.bool true),0)] 1,.map [((.str [1]),(.bool true),0)] 1,.map [((.str [1,1]),(.bool true),0)] 1,.map [((.str [1,1,1]),(.bool true),0)] 1,.iter (some 62) 1 [0] 1,k36,k33,k58,k56,k26,k54,k46,k9,k37,k36,k29,k29,k29,.iter (some 63) 1 [0] 1,k39,k33,k62,k42,k26,k64,k47,k3,k3,k9,k37,k43,k26,k54,k48,k3,k3,k10,k10,k39,k10,k3,k3,k33,k4,.dead,k3,k59,.dead,k10,k10,k10,k10,.iter (some 64) 1 [0] 1,k40,k33,k37,k53,k26,k63,k45,k42,k3,k3,k9,k37,k43,k3,k3,k11,k11,k40,k11,k3,k3,k33,k4,.dead,k3,k60,.dead,k11,k11,k11,k11,.dead,.dead,.dead,k67,k16,.dead,.dead,.dead,.iter (some 65) 1 [0] 1,.cells [.nilslice,.nilslice,.nilslice],k73,k74]⟩
theorem zTU:kn6.ok QQ:=by
 refine z0t (z0m (es:=[]) ?_) zXb [158,159,160] ?_
 ·intro e he;cases he
 ·kernel_rfl
def kn7:OE:=⟨80,[(.ptr 149 0)],[k41,k27,k8,k2,k0,k16,k21,k0,k38,k0,k44,k22,k8,.dead,k3,k3,k13,k13,.dead,k4,k4,k7,k7,k9,k9,.map [((.agg [(.int .i64 0),(.str [])]),(.bool false),0),((.agg [(.int .i64 0),(.str [1])]),(.bool true),1),((.agg [(.int .i64 1),(.str [])]),(.bool true),2),((.agg [(.int .i64 0),(.str [1,1])]),(.bool false),3)] 4,k35,k26,k0,k2,k49,k50,k12,k19,k27,.dead,k4,k4,k7,k7,k14,k20,k5,k5,k6,k6,.dead,k4,.dead,k3,.dead,k3,k23,k7,.dead,k13,.dead,k13,k25,k0,k0,k52,.map [((.str []),(.bool true),0)] 1,.map [((.str [1]),(.bool true),0)] 1,.map [((.str [1,1]),(.bool true),0)] 1,.map [((.str [1,1,1]),(.bool true),0)] 1,.iter (some 62) 1 [0] 1,k36,k33,k58,k56,k26,k54,k46,k9,k37,k36,k29,k29,k29,.iter (some 63) 1 [0] 1,k39,k33,k62,k42,k26,k64,k47,k3,k3,k9,k37,k43,k26,k54,k48,k3,k3,k10,k10,k39,k10,k3,k3,k33,k4,.dead,k3,k59,.dead,k10,k10,k10,k10,.iter (some 64) 1 [0] 1,k40,k33,k37,k53,k26,k63,k45,k42,k3,k3,k9,k37,k43,k3,k3,k11,k11,k40,k11,k3,k3,k33,k4,.dead,k3,k60,.dead,k11,k11,k11,k11,.dead,.dead,.dead,k67,k16,.dead,.dead,.dead,.iter (some 65) 1 [0] 1,.cells [(.sl 159 0 1 4),.nilslice,.nilslice],k73,k74,k15,k15],(.ret (.int .i64 3)),[k41,k27,k8,k2,k0,k16,k21,k0,k38,k0,k44,k22,k8,.dead,k3,k3,k13,k13,.dead,k4,k4,k7,k7,k9,k9,.map [((.agg [(.int .i64 0),(.str [])]),(.bool false),0),((.agg [(.int .i64 0),(.str [1])]),(.bool true),1),((.agg [(.int .i64 1),(.str [])]),(.bool true),2),((.agg [(.int .i64 0),(.str [1,1])]),(.bool false),3)] 4,k35,k26,k0,k2,k49,k50,k12,k19,k27,.dead,k4,k4,k7,k7,k14,k20,k5,k5,k6,k6,.dead,k4,.dead,k3,.dead,k3,k23,k7,.dead,k13,.dead,k13,k25,k0,k0,k52,.map [((.str []),(.bool true),0)] 1,.map [((.str [1]),(.bool true),0)] 1,.map [((.str [1,1]),(.bool true),0)] 1,.map [((.str [1,1,1]),(.bool true),0)] 1,.iter (some 62) 1 [0] 1,k36,k33,k58,k56,k26,k54,k46,k9,k37,k36,k29,k29,k29,.iter (some 63) 1 [0] 1,k39,k33,k62,k42,k26,k64,k47,k3,k3,k9,k37,k43,k26,k54,k48,k3,k3,k10,k10,k39,k10,k3,k3,k33,k4,.dead,k3,k59,.dead,k10,k10,k10,k10,.iter (some 64) 1 [0] 1,k40,k33,k37,k53,k26,k63,k45,k42,k3,k3,k9,k37,k43,k3,k3,k11,k11,k40,k11,k3,k3,k33,k4,.dead,k3,k60,.dead,k11,k11,k11,k11,.dead,.dead,.dead,.cells [(.sl 150 0 2 1),(.sl 160 0 4 1),(.sl 161 0 4 1),(.sl 162 0 4 1)],k16,.dead,.dead,.dead,.iter (some 65) 1 [0] 1,.dead,.dead,.dead,k15,k15,.cells [(.sl 159 0 1 4),.nilslice,.nilslice,.nilslice],k28,k17]⟩
theorem zTT:kn7.ok QQ:=by
 refine z0t (z0m (es:=[]) ?_) zXb [163,164,165] ?_
 ·intro e he;cases he
 ·kernel_rfl
def kn8:OE:=⟨81,[(.ptr 149 0),(.int .i64 0),(.int .i64 1),(.str [1,1,1])],[k41,k27,k8,k2,k0,k16,k21,k0,k38,k0,k44,k22,k8,.dead,k3,k3,k13,k13,.dead,k4,k4,k7,k7,k9,k9,.map [((.agg [(.int .i64 0),(.str [])]),(.bool false),0),((.agg [(.int .i64 0),(.str [1])]),(.bool true),1),((.agg [(.int .i64 1),(.str [])]),(.bool true),2),((.agg [(.int .i64 0),(.str [1,1])]),(.bool false),3)] 4,k35,k26,k0,k2,k49,k50,k12,k19,k27,.dead,k4,k4,k7,k7,k14,k20,k5,k5,k6,k6,.dead,k4,.dead,k3,.dead,k3,k23,k7,.dead,k13,.dead,k13,k25,k0,k0,k52,.map [((.str []),(.bool true),0)] 1,.map [((.str [1]),(.bool true),0)] 1,.map [((.str [1,1]),(.bool true),0)] 1,.map [((.str [1,1,1]),(.bool true),0)] 1,.iter (some 62) 1 [0] 1,k36,k33,k58,k56,k26,k54,k46,k9,k37,k36,k29,k29,k29,.iter (some 63) 1 [0] 1,k39,k33,k62,k42,k26,k64,k47,k3,k3,k9,k37,k43,k26,k54,k48,k3,k3,k10,k10,k39,k10,k3,k3,k33,k4,.dead,k3,k59,.dead,k10,k10,k10,k10,.iter (some 64) 1 [0] 1,k40,k33,k37,k53,k26,k63,k45,k42,k3,k3,k9,k37,k43,k3,k3,k11,k11,k40,k11,k3,k3,k33,k4,.dead,k3,k60,.dead,k11,k11,k11,k11,.dead,.dead,.dead,k61,k16,k76,k81,k36,.iter (some 65) 1 [0] 1],(.ret (.tuple [])),[k41,k27,k8,k2,k0,k16,k21,k0,k38,k0,k44,k22,k8,.dead,k3,k3,k13,k13,.dead,k4,k4,k7,k7,k9,k9,.map [((.agg [(.int .i64 0),(.str [])]),(.bool false),0),((.agg [(.int .i64 0),(.str [1])]),(.bool true),1),((.agg [(.int .i64 1),(.str [])]),(.bool true),2),((.agg [(.int .i64 0),(.str [1,1])]),(.bool false),3)] 4,k35,k26,k0,k2,k49,k50,k12,k19,k27,.dead,k4,k4,k7,k7,k14,k20,k5,k5,k6,k6,.dead,k4,.dead,k3,.dead,k3,k23,k7,.dead,k13,.dead,k13,k25,k0,k0,k52,.map [((.str []),(.bool true),0)] 1,.map [((.str [1]),(.bool true),0)] 1,.map [((.str [1,1]),(.bool true),0)] 1,.map [((.str [1,1,1]),(.bool true),0)] 1,.iter (some 62) 1 [0] 1,k36,k33,k58,k56,k26,k54,k46,k9,k37,k36,k29,k29,k29,.iter (some 63) 1 [0] 1,k39,k33,k62,k42,k26,k64,k47,k3,k3,k9,k37,k43,k26,k54,k48,k3,k3,k10,k10,k39,k10,k3,k3,k33,k4,.dead,k3,k59,.dead,k10,k10,k10,k10,.iter (some 64) 1 [0] 1,k40,k33,k37,k53,k26,k63,k45,k42,k3,k3,k9,k37,k43,k3,k3,k11,k11,k40,k11,k3,k3,k33,k4,.dead,k3,k60,.dead,k11,k11,k11,k11,.dead,.dead,.dead,.cells [(.sl 150 0 2 1),(.sl 156 0 4 1),(.sl 157 0 4 1),(.sl 158 0 4 1)],k16,.dead,.dead,.dead,.iter (some 65) 1 [0] 1,k15,.cells [(.sl 155 0 1 4),.nilslice,(.sl 159 0 1 4),(.sl 160 0 1 4)],k28,k17,k18,k24]⟩
theorem zTS:kn8.ok QQ:=by
 refine z0t (z0m (es:=[kn6,kn7]) ?_) is81 [159,160,161,162,164,166] ?_
 ·intro e he
  simp only [lAT,lA5,or_false] at he
  rcases he with rfl | rfl
  ·exact zTU
  ·exact zTT
 ·kernel_rfl
def kn9:OE:=⟨77,[(.agg [(.int .i64 2),(.sl 2 0 1 2),(.sl 3 0 1 6),(.bool true)]),(.sl 5 0 2 1),(.ptr 11 0),(.str [1,0,0])],[k41,k27,k8,k2,k0,k16,k21,k0,k38,k0,k44,k22,k8,.dead,k3,k3,k13,k13,.dead,k4,k4,k7,k7,k9,k9,.map [] 0,k35,k26,k0,k2,k49,k50,k12,k19,k27,.dead,k4,k4,k7,k7,k14,k20,k5,k5,k6,k6,.dead,k4,.dead,k3,.dead,k3,k23,k7,.dead,k13,.dead,k13,k25,k0],(.ret (.tuple [(.ptr 60 0),(.bool true)])),[k41,k27,k8,k2,k0,k16,k21,k0,k38,k0,k44,k22,k8,.dead,k3,k3,k13,k13,.dead,k4,k4,k7,k7,k9,k9,.map [((.agg [(.int .i64 0),(.str [])]),(.bool false),0),((.agg [(.int .i64 0),(.str [1])]),(.bool true),1),((.agg [(.int .i64 1),(.str [])]),(.bool true),2),((.agg [(.int .i64 0),(.str [1,1])]),(.bool false),3)] 4,k35,k26,k0,k2,k49,k50,k12,k19,k27,.dead,k4,k4,k7,k7,k14,k20,k5,k5,k6,k6,.dead,k4,.dead,k3,.dead,k3,k23,k7,.dead,k13,.dead,k13,k25,k0,.cells [(.sl 61 0 2 1),(.sl 63 0 4 1),(.sl 64 0 4 1),(.sl 65 0 4 1)],k16,k15,.cells [(.sl 62 0 1 4),.nilslice,(.sl 66 0 1 4),(.sl 67 0 1 4)],k28,k17,k18,k24]⟩
theorem zTR:kn9.ok QQ:=by
 refine z0t (z0m (es:=[kn4,kn5,kn8]) ?_) is77 [149,150,155,156,157,158,159,160] ?_
 ·intro e he
  simp only [lAT,lA5,or_false] at he
  rcases he with rfl | rfl | rfl
  ·exact zTW
  ·exact zTV
  ·exact zTS
 ·kernel_rfl
def kn10:OE:=⟨36,[(.agg [(.int .i64 2),(.sl 2 0 1 2),(.sl 3 0 1 6),(.bool true)]),(.sl 5 0 2 1),(.ptr 11 0),(.str [1,0,0])],[k41,k27,k8,k2,k0,k16,k21,k0,k38,k0,k44,k22,k8,.dead,k3,k3,k13,k13,.dead,k4,k4,k7,k7,k9,k9,.map [] 0,k35,k26,k0,k2,k49,k50,k12,k19,k27,.dead,k4,k4,k7,k7,k14,k20,k5,k5,k6,k6,.dead,k4,.dead,k3,.dead,k3,k23,k7,.dead,k13,.dead,k13,k25],(.ret (.tuple [(.ptr 59 0),(.bool true)])),[k41,k27,k8,k2,k0,k16,k21,k0,k38,k0,k44,k22,k8,.dead,k3,k3,k13,k13,.dead,k4,k4,k7,k7,k9,k9,.map [((.agg [(.int .i64 0),(.str [])]),(.bool false),0),((.agg [(.int .i64 0),(.str [1])]),(.bool true),1),((.agg [(.int .i64 1),(.str [])]),(.bool true),2),((.agg [(.int .i64 0),(.str [1,1])]),(.bool false),3)] 4,k35,k26,k0,k2,k49,k50,k12,k19,k27,.dead,k4,k4,k7,k7,k14,k20,k5,k5,k6,k6,.dead,k4,.dead,k3,.dead,k3,k23,k7,.dead,k13,.dead,k13,k25,k30,k16,k15,k34,k28,k17,k18,k24]⟩
theorem zRe:kn10.ok QQ:=by
 refine z0t (z0m (es:=[kn9]) ?_) is36 [60,61,62,63,64,65,66,67] ?_
 ·intro e he
  simp only [lAT,lA5,or_false] at he
  rcases he with rfl
  ·exact zTR
 ·kernel_rfl
def kn11:OE:=⟨78,[(.sl 60 0 2 1),(.int .i64 4)],[k41,k27,k8,k2,k0,k16,k21,k0,k38,k0,k44,k22,k8,.dead,k3,k3,k13,k13,.dead,k4,k4,k7,k7,k9,k9,.map [((.agg [(.int .i64 0),(.str [])]),(.bool false),0),((.agg [(.int .i64 0),(.str [1])]),(.bool true),1),((.agg [(.int .i64 1),(.str [])]),(.bool true),2),((.agg [(.int .i64 0),(.str [1,1])]),(.bool false),3)] 4,k35,k26,k0,k2,k49,k50,k12,k19,k27,.dead,k4,k4,k7,k7,k14,k20,k5,k5,k6,k6,.dead,k4,.dead,k3,.dead,k3,k23,k7,.dead,k13,.dead,k13,k25,k30,k16,k15,k34,k28,k17,k18,k24],(.ret (.ptr 70 0)),[k41,k27,k8,k2,k0,k16,k21,k0,k38,k0,k44,k22,k8,.dead,k3,k3,k13,k13,.dead,k4,k4,k7,k7,k9,k9,.map [((.agg [(.int .i64 0),(.str [])]),(.bool false),0),((.agg [(.int .i64 0),(.str [1])]),(.bool true),1),((.agg [(.int .i64 1),(.str [])]),(.bool true),2),((.agg [(.int .i64 0),(.str [1,1])]),(.bool false),3)] 4,k35,k26,k0,k2,k49,k50,k12,k19,k27,.dead,k4,k4,k7,k7,k14,k20,k5,k5,k6,k6,.dead,k4,.dead,k3,.dead,k3,k23,k7,.dead,k13,.dead,k13,k25,k30,k16,k15,k34,k28,k17,k18,k24,k65,k17,k17,k55,k16]⟩
theorem zRd:kn11.ok QQ:=by
 refine z0t (z0m (es:=[]) ?_) zTc [67,68,69,70,72] ?_
 ·intro e he;cases he
 ·kernel_rfl
def kn12:OE:=⟨78,[(.sl 60 0 2 1),(.int .i64 4)],[k41,k27,k8,k2,k0,k16,k21,k0,k38,k0,k44,k22,k8,.dead,k3,k3,k13,k13,.dead,k4,k4,k7,k7,k9,k9,.map [((.agg [(.int .i64 0),(.str [])]),(.bool false),0),((.agg [(.int .i64 0),(.str [1])]),(.bool true),1),((.agg [(.int .i64 1),(.str [])]),(.bool true),2),((.agg [(.int .i64 0),(.str [1,1])]),(.bool false),3)] 4,k35,k26,k0,k2,k49,k50,k12,k19,k27,.dead,k4,k4,k7,k7,k14,k20,k5,k5,k6,k6,.dead,k4,.dead,k3,.dead,k3,k23,k7,.dead,k13,.dead,k13,k25,k30,k16,k15,k34,k28,k17,k18,k24,k57,k17,k17,k55,k16,k15,k51,k51,k18,k15,k15,k24,k18,k18,k77],(.ret (.ptr 85 0)),[k41,k27,k8,k2,k0,k16,k21,k0,k38,k0,k44,k22,k8,.dead,k3,k3,k13,k13,.dead,k4,k4,k7,k7,k9,k9,.map [((.agg [(.int .i64 0),(.str [])]),(.bool false),0),((.agg [(.int .i64 0),(.str [1])]),(.bool true),1),((.agg [(.int .i64 1),(.str [])]),(.bool true),2),((.agg [(.int .i64 0),(.str [1,1])]),(.bool false),3)] 4,k35,k26,k0,k2,k49,k50,k12,k19,k27,.dead,k4,k4,k7,k7,k14,k20,k5,k5,k6,k6,.dead,k4,.dead,k3,.dead,k3,k23,k7,.dead,k13,.dead,k13,k25,k30,k16,k15,k34,k28,k17,k18,k24,k57,k17,k17,k55,k16,k15,k51,k51,k18,k15,k15,k24,k18,k18,k77,k65,k17,k17,.cells [(.sl 86 0 2 1),(.sl 82 0 4 1),(.sl 83 0 4 1),(.sl 84 0 4 1)],k16]⟩
theorem zRc:kn12.ok QQ:=by
 refine z0t (z0m (es:=[]) ?_) zTc [82,83,84,85,87] ?_
 ·intro e he;cases he
 ·kernel_rfl
def kn13:OE:=⟨149,[(.ptr 59 0),(.int .i64 60)],[k41,k27,k8,k2,k0,k16,k21,k0,k38,k0,k44,k22,k8,.dead,k3,k3,k13,k13,.dead,k4,k4,k7,k7,k9,k9,.map [((.agg [(.int .i64 0),(.str [])]),(.bool false),0),((.agg [(.int .i64 0),(.str [1])]),(.bool true),1),((.agg [(.int .i64 1),(.str [])]),(.bool true),2),((.agg [(.int .i64 0),(.str [1,1])]),(.bool false),3)] 4,k35,k26,k0,k2,k49,k50,k12,k19,k27,.dead,k4,k4,k7,k7,k14,k20,k5,k5,k6,k6,.dead,k4,.dead,k3,.dead,k3,k23,k7,.dead,k13,.dead,k13,k25,k30,k16,k15,k34,k28,k17,k18,k24,k57,k17,k17,k55,k16,k15,k51,k51,k18,k15,k15,k24,k18,k18,k77],(.ret (.sl 143 0 61 1)),[k41,k27,k8,k2,k0,k16,k21,k0,k38,k0,k44,k22,k8,.dead,k3,k3,k13,k13,.dead,k4,k4,k7,k7,k9,k9,.map [((.agg [(.int .i64 0),(.str [])]),(.bool false),0),((.agg [(.int .i64 0),(.str [1])]),(.bool true),1),((.agg [(.int .i64 1),(.str [])]),(.bool true),2),((.agg [(.int .i64 0),(.str [1,1])]),(.bool false),3)] 4,k35,k26,k0,k2,k49,k50,k12,k19,k27,.dead,k4,k4,k7,k7,k14,k20,k5,k5,k6,k6,.dead,k4,.dead,k3,.dead,k3,k23,k7,.dead,k13,.dead,k13,k25,k30,k16,k15,k34,k28,k17,k18,k24,k57,k17,k17,k55,k16,k15,k51,k51,k18,k15,k15,k24,k18,k18,k77,k68,k69,k70,k71,k1,k1,k1,k1,k1,k1,k1,k1,k1,k1,k1,k1,k1,k1,k1,k1,k1,k1,k1,k1,k1,k1,k1,k1,k1,k1,k1,k1,k1,k1,k1,k1,k1,k1,k1,k1,k1,k1,k1,k1,k1,k1,k1,k1,k1,k1,k1,k1,k1,k1,k1,k1,k1,k1,k1,k1,k1,.cells [(.sl 82 0 4 1),(.sl 83 0 4 1),(.sl 84 0 4 1),(.sl 85 0 4 1),(.sl 86 0 4 1),(.sl 87 0 4 1),(.sl 88 0 4 1),(.sl 89 0 4 1),(.sl 90 0 4 1),(.sl 91 0 4 1),(.sl 92 0 4 1),(.sl 93 0 4 1),(.sl 94 0 4 1),(.sl 95 0 4 1),(.sl 96 0 4 1),(.sl 97 0 4 1),(.sl 98 0 4 1),(.sl 99 0 4 1),(.sl 100 0 4 1),(.sl 101 0 4 1),(.sl 102 0 4 1),(.sl 103 0 4 1),(.sl 104 0 4 1),(.sl 105 0 4 1),(.sl 106 0 4 1),(.sl 107 0 4 1),(.sl 108 0 4 1),(.sl 109 0 4 1),(.sl 110 0 4 1),(.sl 111 0 4 1),(.sl 112 0 4 1),(.sl 113 0 4 1),(.sl 114 0 4 1),(.sl 115 0 4 1),(.sl 116 0 4 1),(.sl 117 0 4 1),(.sl 118 0 4 1),(.sl 119 0 4 1),(.sl 120 0 4 1),(.sl 121 0 4 1),(.sl 122 0 4 1),(.sl 123 0 4 1),(.sl 124 0 4 1),(.sl 125 0 4 1),(.sl 126 0 4 1),(.sl 127 0 4 1),(.sl 128 0 4 1),(.sl 129 0 4 1),(.sl 130 0 4 1),(.sl 131 0 4 1),(.sl 132 0 4 1),(.sl 133 0 4 1),(.sl 134 0 4 1),(.sl 135 0 4 1),(.sl 136 0 4 1),(.sl 137 0 4 1),(.sl 138 0 4 1),(.sl 139 0 4 1),(.sl 140 0 4 1),(.sl 141 0 4 1),(.sl 142 0 4 1)]]⟩
theorem zRb:kn13.ok QQ:=by
 refine z0t (z0m (es:=[kn12]) ?_) zRq [99,109,120,131,137,141,145,149,153,157,161,165,169,173,177,181,185,189,193,197,201,205,209,213,217,221,225,229,233,237,241,245,249,253,257,261,265,269,273,277,281,285,289,293,297,301,305,309,313,317,321,325,329,333,337,341,345,349,353,357,361,363] ?_
 ·intro e he
  simp only [lAT,lA5,or_false] at he
  rcases he with rfl
  ·exact zRc
 ·kernel_rfl
def kn14:OE:=⟨83,[(.ptr 59 0),(.int .i64 60)],[k41,k27,k8,k2,k0,k16,k21,k0,k38,k0,k44,k22,k8,.dead,k3,k3,k13,k13,.dead,k4,k4,k7,k7,k9,k9,.map [((.agg [(.int .i64 0),(.str [])]),(.bool false),0),((.agg [(.int .i64 0),(.str [1])]),(.bool true),1),((.agg [(.int .i64 1),(.str [])]),(.bool true),2),((.agg [(.int .i64 0),(.str [1,1])]),(.bool false),3)] 4,k35,k26,k0,k2,k49,k50,k12,k19,k27,.dead,k4,k4,k7,k7,k14,k20,k5,k5,k6,k6,.dead,k4,.dead,k3,.dead,k3,k23,k7,.dead,k13,.dead,k13,k25,k30,k16,k15,k34,k28,k17,k18,k24],(.ret (.bool false)),[k41,k27,k8,k2,k0,k16,k21,k0,k38,k0,k44,k22,k8,.dead,k3,k3,k13,k13,.dead,k4,k4,k7,k7,k9,k9,.map [((.agg [(.int .i64 0),(.str [])]),(.bool false),0),((.agg [(.int .i64 0),(.str [1])]),(.bool true),1),((.agg [(.int .i64 1),(.str [])]),(.bool true),2),((.agg [(.int .i64 0),(.str [1,1])]),(.bool false),3)] 4,k35,k26,k0,k2,k49,k50,k12,k19,k27,.dead,k4,k4,k7,k7,k14,k20,k5,k5,k6,k6,.dead,k4,.dead,k3,.dead,k3,k23,k7,.dead,k13,.dead,k13,k25,k30,k16,k15,k34,k28,k17,k18,k24]⟩
theorem zRa:kn14.ok QQ:=by
 refine z0t (z0m (es:=[kn11,kn13]) ?_) is83 [] ?_
 ·intro e he
  simp only [lAT,lA5,or_false] at he
  rcases he with rfl | rfl
  ·exact zRd
  ·exact zRb
 ·kernel_rfl
def kn15:OE:=⟨78,[(.sl 60 0 2 1),(.int .i64 4)],[k41,k27,k8,k2,k0,k16,k21,k0,k38,k0,k44,k22,k8,.dead,k3,k3,k13,k13,.dead,k4,k4,k7,k7,k9,k9,.map [((.agg [(.int .i64 0),(.str [])]),(.bool false),0),((.agg [(.int .i64 0),(.str [1])]),(.bool true),1),((.agg [(.int .i64 1),(.str [])]),(.bool true),2),((.agg [(.int .i64 0),(.str [1,1])]),(.bool false),3)] 4,k35,k26,k0,k2,k49,k50,k12,k19,k27,.dead,k4,k4,k7,k7,k14,k20,k5,k5,k6,k6,.dead,k4,.dead,k3,.dead,k3,k23,k7,.dead,k13,.dead,k13,k25,k30,k16,k15,k34,k28,k17,k18,k24,k78,k75,k72],(.ret (.ptr 73 0)),[k41,k27,k8,k2,k0,k16,k21,k0,k38,k0,k44,k22,k8,.dead,k3,k3,k13,k13,.dead,k4,k4,k7,k7,k9,k9,.map [((.agg [(.int .i64 0),(.str [])]),(.bool false),0),((.agg [(.int .i64 0),(.str [1])]),(.bool true),1),((.agg [(.int .i64 1),(.str [])]),(.bool true),2),((.agg [(.int .i64 0),(.str [1,1])]),(.bool false),3)] 4,k35,k26,k0,k2,k49,k50,k12,k19,k27,.dead,k4,k4,k7,k7,k14,k20,k5,k5,k6,k6,.dead,k4,.dead,k3,.dead,k3,k23,k7,.dead,k13,.dead,k13,k25,k30,k16,k15,k34,k28,k17,k18,k24,k78,k75,k72,k65,k17,k17,.cells [(.sl 74 0 2 1),(.sl 70 0 4 1),(.sl 71 0 4 1),(.sl 72 0 4 1)],k16]⟩
theorem zRZ:kn15.ok QQ:=by
 refine z0t (z0m (es:=[]) ?_) zTc [70,71,72,73,75] ?_
 ·intro e he;cases he
 ·kernel_rfl
def kn16:OE:=⟨149,[(.ptr 59 0),(.int .i64 60)],[k41,k27,k8,k2,k0,k16,k21,k0,k38,k0,k44,k22,k8,.dead,k3,k3,k13,k13,.dead,k4,k4,k7,k7,k9,k9,.map [((.agg [(.int .i64 0),(.str [])]),(.bool false),0),((.agg [(.int .i64 0),(.str [1])]),(.bool true),1),((.agg [(.int .i64 1),(.str [])]),(.bool true),2),((.agg [(.int .i64 0),(.str [1,1])]),(.bool false),3)] 4,k35,k26,k0,k2,k49,k50,k12,k19,k27,.dead,k4,k4,k7,k7,k14,k20,k5,k5,k6,k6,.dead,k4,.dead,k3,.dead,k3,k23,k7,.dead,k13,.dead,k13,k25,k30,k16,k15,k34,k28,k17,k18,k24,k78,k75,k72],(.ret (.sl 131 0 61 1)),[k41,k27,k8,k2,k0,k16,k21,k0,k38,k0,k44,k22,k8,.dead,k3,k3,k13,k13,.dead,k4,k4,k7,k7,k9,k9,.map [((.agg [(.int .i64 0),(.str [])]),(.bool false),0),((.agg [(.int .i64 0),(.str [1])]),(.bool true),1),((.agg [(.int .i64 1),(.str [])]),(.bool true),2),((.agg [(.int .i64 0),(.str [1,1])]),(.bool false),3)] 4,k35,k26,k0,k2,k49,k50,k12,k19,k27,.dead,k4,k4,k7,k7,k14,k20,k5,k5,k6,k6,.dead,k4,.dead,k3,.dead,k3,k23,k7,.dead,k13,.dead,k13,k25,k30,k16,k15,k34,k28,k17,k18,k24,k78,k75,k72,k68,k69,k70,k71,k1,k1,k1,k1,k1,k1,k1,k1,k1,k1,k1,k1,k1,k1,k1,k1,k1,k1,k1,k1,k1,k1,k1,k1,k1,k1,k1,k1,k1,k1,k1,k1,k1,k1,k1,k1,k1,k1,k1,k1,k1,k1,k1,k1,k1,k1,k1,k1,k1,k1,k1,k1,k1,k1,k1,k1,k1,.cells [(.sl 70 0 4 1),(.sl 71 0 4 1),(.sl 72 0 4 1),(.sl 73 0 4 1),(.sl 74 0 4 1),(.sl 75 0 4 1),(.sl 76 0 4 1),(.sl 77 0 4 1),(.sl 78 0 4 1),(.sl 79 0 4 1),(.sl 80 0 4 1),(.sl 81 0 4 1),(.sl 82 0 4 1),(.sl 83 0 4 1),(.sl 84 0 4 1),(.sl 85 0 4 1),(.sl 86 0 4 1),(.sl 87 0 4 1),(.sl 88 0 4 1),(.sl 89 0 4 1),(.sl 90 0 4 1),(.sl 91 0 4 1),(.sl 92 0 4 1),(.sl 93 0 4 1),(.sl 94 0 4 1),(.sl 95 0 4 1),(.sl 96 0 4 1),(.sl 97 0 4 1),(.sl 98 0 4 1),(.sl 99 0 4 1),(.sl 100 0 4 1),(.sl 101 0 4 1),(.sl 102 0 4 1),(.sl 103 0 4 1),(.sl 104 0 4 1),(.sl 105 0 4 1),(.sl 106 0 4 1),(.sl 107 0 4 1),(.sl 108 0 4 1),(.sl 109 0 4 1),(.sl 110 0 4 1),(.sl 111 0 4 1),(.sl 112 0 4 1),(.sl 113 0 4 1),(.sl 114 0 4 1),(.sl 115 0 4 1),(.sl 116 0 4 1),(.sl 117 0 4 1),(.sl 118 0 4 1),(.sl 119 0 4 1),(.sl 120 0 4 1),(.sl 121 0 4 1),(.sl 122 0 4 1),(.sl 123 0 4 1),(.sl 124 0 4 1),(.sl 125 0 4 1),(.sl 126 0 4 1),(.sl 127 0 4 1),(.sl 128 0 4 1),(.sl 129 0 4 1),(.sl 130 0 4 1)]]⟩
theorem zRY:kn16.ok QQ:=by
 refine z0t (z0m (es:=[kn15]) ?_) zRq [87,97,108,119,125,129,133,137,141,145,149,153,157,161,165,169,173,177,181,185,189,193,197,201,205,209,213,217,221,225,229,233,237,241,245,249,253,257,261,265,269,273,277,281,285,289,293,297,301,305,309,313,317,321,325,329,333,337,341,345,349,351] ?_
 ·intro e he
  simp only [lAT,lA5,or_false] at he
  rcases he with rfl
  ·exact zRZ
 ·kernel_rfl
def kn17:OE:=⟨84,[(.ptr 59 0),(.int .i64 4),(.int .i64 60)],[k41,k27,k8,k2,k0,k16,k21,k0,k38,k0,k44,k22,k8,.dead,k3,k3,k13,k13,.dead,k4,k4,k7,k7,k9,k9,.map [((.agg [(.int .i64 0),(.str [])]),(.bool false),0),((.agg [(.int .i64 0),(.str [1])]),(.bool true),1),((.agg [(.int .i64 1),(.str [])]),(.bool true),2),((.agg [(.int .i64 0),(.str [1,1])]),(.bool false),3)] 4,k35,k26,k0,k2,k49,k50,k12,k19,k27,.dead,k4,k4,k7,k7,k14,k20,k5,k5,k6,k6,.dead,k4,.dead,k3,.dead,k3,k23,k7,.dead,k13,.dead,k13,k25,k30,k16,k15,k34,k28,k17,k18,k24],(.ret (.sl 68 0 1 1)),[k41,k27,k8,k2,k0,k16,k21,k0,k38,k0,k44,k22,k8,.dead,k3,k3,k13,k13,.dead,k4,k4,k7,k7,k9,k9,.map [((.agg [(.int .i64 0),(.str [])]),(.bool false),0),((.agg [(.int .i64 0),(.str [1])]),(.bool true),1),((.agg [(.int .i64 1),(.str [])]),(.bool true),2),((.agg [(.int .i64 0),(.str [1,1])]),(.bool false),3)] 4,k35,k26,k0,k2,k49,k50,k12,k19,k27,.dead,k4,k4,k7,k7,k14,k20,k5,k5,k6,k6,.dead,k4,.dead,k3,.dead,k3,k23,k7,.dead,k13,.dead,k13,k25,k30,k16,k15,k34,k28,k17,k18,k24,.cells [(.int .i64 1),(.int .i64 1),(.int .i64 1)],.cells [(.sl 67 0 3 1)]]⟩
theorem zRX:kn17.ok QQ:=by
 refine z0t (z0m (es:=[kn16]) ?_) is84 [187,189] ?_
 ·intro e he
  simp only [lAT,lA5,or_false] at he
  rcases he with rfl
  ·exact zRY
 ·kernel_rfl
def kn18:OE:=⟨7,[],[],(.ret (.bool true)),[]⟩
theorem zRW:kn18.ok QQ:=by
 refine z0t (z0m (es:=[kn0,kn3,kn10,kn14,kn17]) ?_) is7 [] ?_
 ·intro e he
  simp only [lAT,lA5,or_false] at he
  rcases he with rfl | rfl | rfl | rfl | rfl
  ·exact zTa
  ·exact zTX
  ·exact zRe
  ·exact zRa
  ·exact zRX
 ·kernel_rfl
end Go.Ab
namespace Go.Ab
theorem zJw (H:z0B):z0D QQ 7 [] H (z1A H (.bool true)):=z0D.over (n:=1) (m:=1) (K:=[]) rfl rfl zRW.2
end Go.Ab
