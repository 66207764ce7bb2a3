/- Part 47 of the proof. -/
import Derived.Test.YtagcckioikbanaaGreatDoorA32
import Derived.Test.YtagcckioikbanaaGreatDoorA33
import Derived.Test.YtagcckioikbanaaGreatDoorA46
set_option linter.unusedVariables false
set_option linter.unusedSimpArgs false
namespace Go.Ab
open Go
set_option maxRecDepth 100000
set_option maxHeartbeats 16000000
def zCH:List (List Bt)→Int
 | []=>0
 | w::ws=>if z1X w != 0 then z1X w else zCH ws
theorem zEQ:∀ {ws:List (List Bt)} {i:Nat} {w:List Bt},zCH (ws.take i)=0→ws[i]? =some w→(z1X w != 0)=true→zCH ws=z1X w
 | a::ws,0,w,_,h,hv=>by
  simp only [lAY,Option.some.injEq] at h
  subst h
  simp only [zCH,hv,if_true]
 | a::ws,i+1,w,h0,h,hv=>by
  simp only [lBD] at h
  simp only [lBV,zCH] at h0 ⊢
  cases ha:(z1X a != 0)
  ·rw [ha] at h0
   simp only [lAX,if_false] at h0 ⊢
   exact zEQ h0 h hv
  ·rw [ha] at h0
   simp only [if_true] at h0
   rw [h0] at ha;cases ha
theorem zBg:∀ {ws:List (List Bt)} {i:Nat} {w:List Bt},zCH (ws.take i)=0→ws[i]? =some w→(z1X w != 0)=false→zCH (ws.take (i+1))=0
 | a::ws,0,w,_,h,hv=>by
  simp only [lAY,Option.some.injEq] at h
  subst h
  simp [zCH,hv]
 | a::ws,i+1,w,h0,h,hv=>by
  simp only [lBD] at h
  simp only [lBV,zCH] at h0 ⊢
  cases ha:(z1X a != 0)
  ·rw [ha] at h0
   simp only [lAX,if_false] at h0 ⊢
   exact zBg h0 h hv
  ·rw [ha] at h0
   simp only [if_true] at h0
   rw [h0] at ha;cases ha
def zLk (r:Ru) (sg:List Bt) (ws:List (List Bt)):Int :=
 if zBz r != 0 then zBz r else if zLh sg != 0 then zLh sg else if zCH ws != 0 then zCH ws else if (z7y r++ws.headD []).any (z7G sg) then 4 else 0
def zTp (l:List Bt):Int:=if decide ((l.length:Int)>40)||l.any z1h then 3 else if (l.any fun s=>!z2k s) || !z9r l then 1 else 0
def zQr (r:Ru) (sg:List Bt) (ws:List (List Bt)):Int :=
 if zAZ r != 0 then zAZ r else if zTp sg != 0 then zTp sg else if zCH ws != 0 then zCH ws else if !((z7y r).all fun t=>decide (t∈sg))||(!ws.isEmpty && !((ws.headD []).all fun t=>decide (t∈sg))) then 4 else 0
structure WsV (wsv:AV) (wvs:List AV) (ws:List (List Bt)):Prop where
 sl:Sl 1 wsv wvs
 len:wvs.length=ws.length
 get:∀ (i:Nat) (v:AV) (w:List Bt),wvs[i]? =some v→ws[i]? =some w→Sl 1 v (w.map .str)∧okW w∧w.length≤1000000
 nl:ws.length≤1000000
section
variable {sv wsv:AV} {sg:List Bt} {wvs:List AV} {ws:List (List Bt)} {r:Ru}
theorem a26 (hsv:Sl 1 sv (sg.map .str)) (hsw:okW sg) (hsn:sg.length≤1000000) (hw:WsV wsv wvs ws) (hr:okR2 r) (H:z0B):z0C PP 17 [z6F r,sv,wsv] H (z1D H (.int .i64 (zLk r sg ws))):=by
 refine z0C.gives (y0Q.c3 z0P mixed rfl ?_)
 rw [lAJ]
 have k49:=fun H'=>c15 r hr.ok H'
 have k50:=fun H'=>a50 hsv hsw H'
 have k52:=fun (hsg:zDV sg) (xv:AV) (x:List Bt) hx hxn H'=>a52 (xv:=xv) (x:=x) hsv hsg hsn hx hxn hr H'
 have hws:=hw.sl
 have hwl:=hw.len
 have hwn:=hw.nl
 have hsc:AV.scalar (z0T r.pn r.pairs)=true:=z1n _ _
 have hsc2:AV.scalar (z0U r.ln r.places)=true:=z1p _ _
 rw [z7r] at k49 k52 ⊢
 generalize z0T r.pn r.pairs=pv at *
 generalize z0U r.ln r.places=lv at *
 unfold zLk
 refine z1E (z0V ?_)
 refine z0y (.agg [.int .i64 r.kind,pv,lv,.bool r.below]) rfl (by simp only [AV.shaped,lB3,hsc,hsc2];first | done | rfl) ?_
 have x3:(H++[Blk.cells [.int .i64 r.kind,pv,lv,.bool r.below]])[H.length]? =some (.cells [.int .i64 r.kind,pv,lv,.bool r.below]):=z0E
 show VV _ _ _ (H++[Blk.cells [.int .i64 r.kind,pv,lv,.bool r.below]]) _ _
 generalize hG:[Blk.cells [.int .i64 r.kind,pv,lv,.bool r.below]]=G at *
 refine z0A ?_
 refine z0J rfl (k49 _) ?_
 refine z0A ?_
 cases h1:(zBz r != 0)
 rotate_left
 ·rw [if_pos rfl]
  refine z0A ?_
  exact fr
 rw [if_neg (by simp)]
 refine z0A ?_
 refine z0J rfl (k50 _) ?_
 refine z0A ?_
 cases h2:(zLh sg != 0)
 rotate_left
 ·rw [if_pos rfl]
  refine z0A ?_
  exact fr
 rw [if_neg (by simp)]
 have hasc:zDV sg:=zJC (by simpa using h2)
 refine z0A ?_
 refine z0H ws.length (fun i al W=>al=[(1,sv),(2,wsv),(3,.ptr H.length 0),(23,wsv),(24,.int .i64 ws.length),(25,.int .i64 i)]∧W=H++G∧zCH (ws.take i)=0) ⟨by rw [hwl];rfl,rfl,rfl⟩ ?_
 rintro i _ _ hi ⟨rfl,rfl,v1⟩
 have e1:decide ((i:Int)<(ws.length:Int))=decide (i<ws.length):=by simp only [lAP];omega
 refine z0A ?_
 rw [e1]
 cases hc:decide (i<ws.length)
 rotate_left
 ·simp only [lAE] at hc
  obtain ⟨w,hwi⟩:=z0M (l:=ws) (i:=i) hc
  obtain ⟨wv,hwv⟩:=z0M (l:=wvs) (i:=i) (by omega)
  obtain ⟨g1,g2,g3⟩:=hw.get i wv w hwv hwi
  obtain ⟨_,hcell,_⟩:=z3b g1
  have k51:=fun H'=>c38 g1 g2 H'
  refine z0A ?_
  rw [hcell]
  refine z0A ?_
  refine z0J rfl (k51 _) ?_
  refine z0A ?_
  cases h3:(z1X w != 0)
  ·refine z0A ?_
   exact ⟨hc,rfl,rfl,zBg v1 hwi h3⟩
  ·have he:=zEQ v1 hwi h3
   rw [he,h3,if_pos rfl]
   refine z0A ?_
   exact fr
 simp only [lAC] at hc
 have htk:ws.take i=ws:=lAQ (by omega)
 rw [htk] at v1
 have hz:(zCH ws != 0)=false:=by rw [v1];rfl
 rw [hz,if_neg (by simp)]
 have e0:decide ((wvs.length:Int)>0) = !ws.isEmpty:=by
  rw [hwl]
  cases ws with
  | nil=>rfl
  | cons a l=>simp
 refine z0A ?_
 rw [e0]
 cases ws with
 | nil =>
  have hd:([]:List (List Bt)).headD []=[]:=rfl
  rw [hd]
  refine z0A ?_
  refine z0S (out:=[.int .i64 r.kind,pv,lv,.bool r.below]) rfl ?_
  refine z0A ?_
  refine z0L (R:=z1D (((H++G)++[Blk.cells [.int .i64 r.kind,pv,lv,.bool r.below]]).set (H++G).length .dead) (.bool ((z7y r++([]:List Bt)).any (z7G sg)))) rfl (z0C.sealArgs (id:=(H++G).length) (args':=[.list 4 [.agg [.int .i64 r.kind,pv,lv,.bool r.below]],sv,.nilslice]) z0E rfl (fun i=>?_) (k52 hasc .nilslice ([]:List Bt) .nil (by simp) _)) ?_ ?_
  ·match i with
   | 0=>exact .sl 0 1 4 [.agg [.int .i64 r.kind,pv,lv,.bool r.below]] rfl (fun x hx=>by simp only [lAR] at hx;subst hx;rfl) rfl (by simp)
   | 1=>exact .refl _
   | 2=>exact .refl _
   | i+3=>exact .refl _
  rotate_left
  ·rintro u V' ⟨hu,_⟩
   cases hu
  rintro u V ⟨hu,rfl⟩
  cases hu
  have hset:((H++G)++[Blk.cells [.int .i64 r.kind,pv,lv,.bool r.below]]).set (H++G).length .dead=H++(G++[.dead]):=by
   rw [lA6 _ _ (lAL _),lBG,lA3];rfl
  rw [hset]
  cases hb:(z7y r++([]:List Bt)).any (z7G sg)
  ·rw [if_neg (by simp)]
   refine z0A ?_
   exact fr
  ·rw [if_pos rfl]
   refine z0A ?_
   exact fr
 | cons w ws' =>
  obtain ⟨wv,hwv⟩:=z0M (l:=wvs) (i:=0) (by rw [hwl];simp)
  obtain ⟨g1,g2,g3⟩:=hw.get 0 wv w hwv rfl
  obtain ⟨_,hcell,_⟩:=z3b g1
  have hd:(w::ws').headD []=w:=rfl
  rw [hd]
  refine z0A ?_
  rw [hcell]
  refine z0A ?_
  refine z0S (out:=[.int .i64 r.kind,pv,lv,.bool r.below]) rfl ?_
  refine z0A ?_
  refine z0L (R:=z1D (((H++G)++[Blk.cells [.int .i64 r.kind,pv,lv,.bool r.below]]).set (H++G).length .dead) (.bool ((z7y r++w).any (z7G sg)))) rfl (z0C.sealArgs (id:=(H++G).length) (args':=[.list 4 [.agg [.int .i64 r.kind,pv,lv,.bool r.below]],sv,wv]) z0E rfl (fun i=>?_) (k52 hasc wv w g1 g3 _)) ?_ ?_
  ·match i with
   | 0=>exact .sl 0 1 4 [.agg [.int .i64 r.kind,pv,lv,.bool r.below]] rfl (fun x hx=>by simp only [lAR] at hx;subst hx;rfl) rfl (by simp)
   | 1=>exact .refl _
   | 2=>exact .refl _
   | i+3=>exact .refl _
  rotate_left
  ·rintro u V' ⟨hu,_⟩
   cases hu
  rintro u V ⟨hu,rfl⟩
  cases hu
  have hset:((H++G)++[Blk.cells [.int .i64 r.kind,pv,lv,.bool r.below]]).set (H++G).length .dead=H++(G++[.dead]):=by
   rw [lA6 _ _ (lAL _),lBG,lA3];rfl
  rw [hset]
  cases hb:(z7y r++w).any (z7G sg)
  ·rw [if_neg (by simp)]
   refine z0A ?_
   exact fr
  ·rw [if_pos rfl]
   refine z0A ?_
   exact fr
theorem a33 (hsv:Sl 1 sv (sg.map .str)) (hsw:okW sg) (hsn:sg.length≤1000000) (hw:WsV wsv wvs ws) (hr:okR r) (hoc:(z7y r).length≤1000000) (H:z0B):z0C PP 26 [z6F r,sv,wsv] H (z1D H (.int .i64 (zQr r sg ws))):=by
 refine z0C.gives (is26.c3 z0P mixed rfl ?_)
 rw [lAJ]
 have k69:=fun H'=>c16 r hr H'
 have k70:=fun H'=>a70 hsv hsw hsn H'
 have k73:=fun H'=>c29 r hr (by omega) H'
 have k72:=fun (wv:AV) (w:List Bt) (h:Sl 1 wv (w.map .str)) hn H'=>a72 (l:=sg) (w:=w) (wv:=wv) hsv h hsn hn H'
 have hws:=hw.sl
 have hwl:=hw.len
 have hwn:=hw.nl
 have hsc:AV.scalar (z0T r.pn r.pairs)=true:=z1n _ _
 have hsc2:AV.scalar (z0U r.ln r.places)=true:=z1p _ _
 have hocs:Sl 1 (z0X ⟨true,z7y r⟩) ((z7y r).map .str):=z6S ⟨true,z7y r⟩
 rw [z7r] at k69 k73 ⊢
 generalize z0T r.pn r.pairs=pv at *
 generalize z0U r.ln r.places=lv at *
 generalize z0X ⟨true,z7y r⟩=ov at *
 unfold zQr
 have hsr:zTp sg=if decide ((sg.length:Int)>40)||sg.any z1h then 3 else if (sg.any fun s=>!z2k s) || !z9r sg then 1 else 0:=rfl
 rw [←hsr] at k70
 refine z1E (z0V ?_)
 refine z0y (.agg [.int .i64 r.kind,pv,lv,.bool r.below]) rfl (by simp only [AV.shaped,lB3,hsc,hsc2];first | done | rfl) ?_
 have x3:(H++[Blk.cells [.int .i64 r.kind,pv,lv,.bool r.below]])[H.length]? =some (.cells [.int .i64 r.kind,pv,lv,.bool r.below]):=z0E
 show VV _ _ _ (H++[Blk.cells [.int .i64 r.kind,pv,lv,.bool r.below]]) _ _
 generalize hG:[Blk.cells [.int .i64 r.kind,pv,lv,.bool r.below]]=G at *
 refine z0A ?_
 refine z0J rfl (k69 _) ?_
 refine z0A ?_
 cases h1:(zAZ r != 0)
 rotate_left
 ·rw [if_pos rfl]
  refine z0A ?_
  exact fr
 rw [if_neg (by simp)]
 refine z0A ?_
 refine z0J rfl (k70 _) ?_
 refine z0A ?_
 cases h2:(zTp sg != 0)
 rotate_left
 ·rw [if_pos rfl]
  refine z0A ?_
  exact fr
 rw [if_neg (by simp)]
 refine z0A ?_
 refine z0H ws.length (fun i al W=>al=[(1,sv),(2,wsv),(3,.ptr H.length 0),(9,.int .i64 i)]∧W=H++G∧zCH (ws.take i)=0) ⟨rfl,rfl,rfl⟩ ?_
 rintro i _ _ hi ⟨rfl,rfl,v1⟩
 have e1:decide ((i:Int)<(wvs.length:Int))=decide (i<ws.length):=by rw [hwl];simp only [lAP];omega
 refine z0A ?_
 rw [e1]
 cases hc:decide (i<ws.length)
 rotate_left
 ·simp only [lAE] at hc
  obtain ⟨w,hwi⟩:=z0M (l:=ws) (i:=i) hc
  obtain ⟨wv,hwv⟩:=z0M (l:=wvs) (i:=i) (by omega)
  obtain ⟨g1,g2,g3⟩:=hw.get i wv w hwv hwi
  obtain ⟨_,hcell,_⟩:=z3b g1
  have k71:=fun H'=>c42 g1 g2 H'
  refine z0A ?_
  rw [hcell]
  refine z0A ?_
  refine z0J rfl (k71 _) ?_
  refine z0A ?_
  cases h3:(z1X w != 0)
  ·refine z0A ?_
   exact ⟨hc,rfl,rfl,zBg v1 hwi h3⟩
  ·have he:=zEQ v1 hwi h3
   rw [he,h3,if_pos rfl]
   refine z0A ?_
   exact fr
 simp only [lAC] at hc
 have htk:ws.take i=ws:=lAQ (by omega)
 rw [htk] at v1
 have hz:(zCH ws != 0)=false:=by rw [v1];rfl
 rw [hz,if_neg (by simp)]
 have e0:decide ((wvs.length:Int)>0) = !ws.isEmpty:=by
  rw [hwl]
  cases ws with
  | nil=>rfl
  | cons a l=>simp
 refine z0A ?_
 refine z0J rfl (k73 _) ?_
 refine z0A ?_
 refine z0J rfl (k72 _ _ hocs hoc _) ?_
 cases h4:(z7y r).all fun t=>decide (t∈sg)
 ·rw [if_pos (by simp)]
  refine z0A ?_
  exact fr
 refine z0A ?_
 rw [e0]
 cases ws with
 | nil =>
  rw [if_neg (by simp)]
  refine z0A ?_
  exact fr
 | cons w ws' =>
  obtain ⟨wv,hwv⟩:=z0M (l:=wvs) (i:=0) (by rw [hwl];simp)
  obtain ⟨g1,g2,g3⟩:=hw.get 0 wv w hwv rfl
  obtain ⟨_,hcell,_⟩:=z3b g1
  have hd:(w::ws').headD []=w:=rfl
  rw [hd]
  refine z0A ?_
  rw [hcell]
  refine z0A ?_
  refine z0J rfl (k72 _ _ g1 g3 _) ?_
  cases h5:w.all fun t=>decide (t∈sg)
  ·rw [if_pos (by simp)]
   refine z0A ?_
   exact fr
  ·rw [if_neg (by simp)]
   refine z0A ?_
   exact fr
end
def push (z0g:List Pt) (n:Pt):List Pt:=if n∈z0g then z0g else z0g++[n]
def pushAll (z0g l:List Pt):List Pt:=l.foldl push z0g
def bfs (nxt:Pt→List Pt) (fin ok:Pt→Bool):Nat→List Pt→Nat→Bool
 | 0,_,_=>false
 | f+1,z0g,i=>match z0g[i]? with
  | none=>false
  | some t=>if fin t then (if ok t then true else bfs nxt fin ok f z0g (i+1)) else bfs nxt fin ok f (pushAll z0g (nxt t)) (i+1)
theorem zKG {nxt:Pt→List Pt} {fin ok:Pt→Bool} {f:Nat} {z0g:List Pt} {i:Nat} (h:z0g.length≤i):bfs nxt fin ok f z0g i=false:=by
 cases f with
 | zero=>rfl
 | succ f =>
  have:z0g[i]? =none:=lBL h
  simp only [bfs,this]
theorem zKF {nxt:Pt→List Pt} {fin ok:Pt→Bool} {f:Nat} {z0g:List Pt} {i:Nat} {t:Pt} (h:z0g[i]? =some t):bfs nxt fin ok (f+1) z0g i=if fin t then (if ok t then true else bfs nxt fin ok f z0g (i+1)) else bfs nxt fin ok f (pushAll z0g (nxt t)) (i+1):=by
 simp only [bfs,h]
theorem zFZ {z0g l:List Pt} {k:Nat} {n:Pt} (h:l[k]? =some n):pushAll z0g (l.take (k+1))=push (pushAll z0g (l.take k)) n:=by
 rw [lA1,h]
 unfold pushAll
 rw [lD2];rfl
def InB (X Y:Nat) (t:Pt):Prop:=t.1≤X∧t.2.1≤Y∧t.2.2≤t.1
structure TodoOk (X Y:Nat) (z0g:List Pt):Prop where
 nd:z0g.Nodup
 inb:∀ t∈z0g,InB X Y t
theorem TodoOk.push {X Y:Nat} {z0g:List Pt} {n:Pt} (h:TodoOk X Y z0g) (hn:InB X Y n):TodoOk X Y (push z0g n):=by
 unfold Go.Ab.push
 split
 ·exact h
 ·rename_i hm
  refine ⟨?_,fun t ht=>?_⟩
  ·rw [List.nodup_append]
   refine ⟨h.nd,by simp,fun a ha b hb e=>?_⟩
   rw [lAR] at hb
   subst hb;subst e;exact hm ha
  ·rcases lA5.1 ht with ht | ht
   ·exact h.inb t ht
   ·rw [lAR.1 ht];exact hn
theorem TodoOk.pushAll {X Y:Nat} {l:List Pt} (hl:∀ t∈l,InB X Y t):∀ {z0g:List Pt},TodoOk X Y z0g→TodoOk X Y (pushAll z0g l):=by
 induction l with
 | nil=>intro z0g h;exact h
 | cons a l ih=>intro z0g h;exact ih (fun t ht=>hl t (lA4 _ ht)) (h.push (hl a (by simp)))
def zCJ (X Y:Nat) (t:Pt):Nat:=(t.1*(Y+1)+t.2.1)*(X+1)+t.2.2
def z5X (X Y:Nat):Nat:=(X+1)*(Y+1)*(X+1)
theorem zCR {a b c d m:Nat} (hb:b<m) (hd:d<m) (h:a*m+b=c*m+d):a=c∧b=d:=by
 have h1:(a*m+b) / m=(c*m+d) / m:=by rw [h]
 have h2:(a*m+b) % m=(c*m+d) % m:=by rw [h]
 have hm:0<m:=by omega
 rw [Nat.mul_comm a m,Nat.mul_comm c m] at h1 h2
 rw [Nat.mul_add_div hm,Nat.mul_add_div hm,Nat.div_eq_of_lt hb,Nat.div_eq_of_lt hd] at h1
 rw [Nat.mul_add_mod,Nat.mul_add_mod,lD8 hb,lD8 hd] at h2
 omega
theorem zQq {X Y:Nat} {s t:Pt} (hs:InB X Y s) (ht:InB X Y t) (h:zCJ X Y s=zCJ X Y t):s=t:=by
 obtain ⟨s1,s2,s3⟩:=hs
 obtain ⟨t1,t2,t3⟩:=ht
 unfold zCJ at h
 obtain ⟨h1,h2⟩:=zCR (by omega) (by omega) h
 obtain ⟨h3,h4⟩:=zCR (by omega) (by omega) h1
 obtain ⟨a,b,c⟩:=s
 obtain ⟨d,e,f⟩:=t
 simp only at h2 h3 h4
 rw [h2,h3,h4]
theorem zTQ {X Y:Nat} {t:Pt} (h:InB X Y t):zCJ X Y t<z5X X Y:=by
 obtain ⟨h1,h2,h3⟩:=h
 unfold zCJ z5X
 have e1:t.1*(Y+1)≤X*(Y+1):=lC7 _ h1
 have e2:t.1*(Y+1)+t.2.1+1≤(X+1)*(Y+1):=by rw [lCT];omega
 have e3:(t.1*(Y+1)+t.2.1+1)*(X+1)≤(X+1)*(Y+1)*(X+1):=lC7 _ e2
 rw [lCT] at e3
 omega
theorem TodoOk.len {X Y:Nat} {z0g:List Pt} (h:TodoOk X Y z0g):z0g.length≤z5X X Y:=by
 have:=zDz (z5X X Y) (z0g.map (zCJ X Y)) (by
  have:=h.nd
  unfold List.Nodup at this ⊢
  rw [List.pairwise_map]
  exact this.imp_of_mem fun ha hb hne e=>hne (zQq (h.inb _ ha) (h.inb _ hb) e)) (fun i hi=>by
  obtain ⟨t,ht,rfl⟩:=lBB.1 hi
  exact zTQ (h.inb t ht))
 rwa [lAD] at this
structure SeenV (key:Pt→AV) (z0g:List Pt) (es:z3T):Prop where
 ent:∀ e∈es,∃ t∈z0g,∃ tag,e=(key t,.bool true,tag)
 all:∀ t∈z0g,∃ e∈es,e.1=key t
def zRJ (K:KT) (key:Pt→AV):Prop:=∀ s t,z4p K (key s) (key t)=some (decide (s=t))
theorem zRp {K:KT} {key:Pt→AV} (hk:zRJ K key) {t:Pt} {z0g:List Pt}:∀ {es:z3T} (i:Nat),(∀ e∈es,∃ t∈z0g,∃ tag,e=(key t,.bool true,tag)) →
  ∃ r,z2p K (key t) es i=some r∧(r=none↔∀ e∈es,e.1≠key t)∧∀ j,r=some j→i≤j∧(es.getD (j-i) (.top,.top,0)).2.1=.bool true
 | [],i,h=>⟨none,rfl,by simp,fun j e=>by cases e⟩
 | e::es,i,h=>by
  obtain ⟨s,hs,tag,rfl⟩:=h e (by simp)
  obtain ⟨r,h1,h2,h3⟩:=zRp (t:=t) hk (i+1) (fun x hx=>h x (lA4 _ hx))
  have hq:=hk t s
  by_cases hts:t=s
  ·subst hts
   rw [decide_eq_true rfl] at hq
   refine ⟨some i,by simp only [z2p,hq],by simp,fun j hj=>?_⟩
   injection hj with hj;subst hj
   exact ⟨lAL _,by simp⟩
  ·rw [decide_eq_false hts] at hq
   refine ⟨r,by simp only [z2p,hq];exact h1,?_,fun j hj=>?_⟩
   ·rw [h2]
    constructor
    ·intro h e he
     rcases lAV.1 he with rfl | he
     ·intro e
      have h5:=hk t s
      rw [←show key s=key t from e] at h5
      have h6:=hk s s
      rw [h5] at h6
      simp [hts] at h6
     ·exact h e he
    ·exact fun h e he=>h e (lA4 _ he)
   ·obtain ⟨a,b⟩:=h3 j hj
    have:j-i=(j-(i+1))+1:=by omega
    refine ⟨by omega,?_⟩
    rw [this,List.getD_cons_succ];exact b
theorem SeenV.find {K:KT} {key:Pt→AV} (hk:zRJ K key) {t:Pt} {z0g:List Pt} {es:z3T} (h:SeenV key z0g es) :
  ∃ r,z2p K (key t) es 0=some r∧z9Z (.bool false) false (r.map fun i=>(es.getD i (.top,.top,0)).2.1)=.bool (decide (t∈z0g))∧(t∉z0g→r=none):=by
 obtain ⟨r,h1,h2,h3⟩:=zRp (t:=t) hk 0 h.ent
 have hmem:r=none↔t∉z0g:=by
  rw [h2]
  constructor
  ·intro hn hm
   obtain ⟨e,he,h4⟩:=h.all t hm
   exact hn e he h4
  ·intro hn e he h4
   obtain ⟨s,hs,tag,rfl⟩:=h.ent e he
   have h5:=hk t s
   rw [←show key s=key t from h4] at h5
   have h6:=hk s s
   rw [h5] at h6
   have:t=s:=by simpa using h6
   exact hn (this ▸ hs)
 refine ⟨r,h1,?_,hmem.2⟩
 cases r with
 | none=>rw [decide_eq_false (hmem.1 rfl)];rfl
 | some i =>
  have hin:t∈z0g:=Decidable.not_not.1 fun hn=>by cases hmem.2 hn
  have:=(h3 i rfl).2
  rw [lEC] at this
  rw [decide_eq_true hin]
  simp only [lBN,z9Z,this];rfl
theorem SeenV.push {key:Pt→AV} {t:Pt} {z0g:List Pt} {es:z3T} (h:SeenV key z0g es) (hn:t∉z0g) (c:Nat):SeenV key (push z0g t) (es++[(key t,.bool true,c)]):=by
 unfold Go.Ab.push
 rw [if_neg hn]
 refine ⟨fun e he=>?_,fun s hs=>?_⟩
 ·rcases lA5.1 he with he | he
  ·obtain ⟨s,hs,tag,rfl⟩:=h.ent e he
   exact ⟨s,lCK _ hs,tag,rfl⟩
  ·rw [lAR] at he
   exact ⟨t,lCE _ (lCQ _),c,he⟩
 ·rcases lA5.1 hs with hs | hs
  ·obtain ⟨e,he,h4⟩:=h.all s hs
   exact ⟨e,lCK _ he,h4⟩
  ·rw [lAR] at hs
   subst hs
   exact ⟨_,lCE _ (lCQ _),rfl⟩
abbrev K3:KT:=⟨true,[.int,.int,.int]⟩
theorem key3 (a b c d e f:Nat):z4p K3 (.agg [.int .i64 a,.int .i64 b,.int .i64 c]) (.agg [.int .i64 d,.int .i64 e,.int .i64 f])=some (decide (a=d)&&decide (b=e)&&decide (c=f)):=by
 have q:∀ a b:Nat,((a:Int)==(b:Int))=decide (a=b):=fun a b=>by
  rw [lBM];simp;omega
 simp only [z4p,if_true]
 rw [if_pos ⟨rfl,rfl⟩]
 simp only [z1Q,zPV,if_true,q]
 cases decide (a=d)<;>cases decide (b=e)<;>cases decide (c=f)<;>rfl
theorem zSh:zRJ K3 ptA:=fun s t=>by
 obtain ⟨a,b,c⟩:=s
 obtain ⟨d,e,f⟩:=t
 unfold ptA
 rw [key3]
 congr 1
 rw [lBM]
 simp [and_assoc]
def stA (t:Pt):AV:=.agg [.int .i64 t.1,.int .i64 t.2.2,.int .i64 t.2.1]
theorem zSj:zRJ K3 stA:=fun s t=>by
 obtain ⟨a,b,c⟩:=s
 obtain ⟨d,e,f⟩:=t
 unfold stA
 rw [key3]
 congr 1
 rw [lBM]
 simp only [lAS,lAE,Prod.mk.injEq]
 exact ⟨fun h=>⟨h.1.1,h.2,h.1.2⟩,fun h=>⟨⟨h.1,h.2.2⟩,h.2.1⟩⟩
theorem zGP {l:List AV} {i:Nat} {a b c:AV} (h3:∀ x∈l,x.cells.length=3) (h:l[i]? =some (.agg [a,b,c])):z2w (some 3) (z0d l) (0+i*3)=some (.agg [a,b,c]):=by
 have hi:=(lAA.1 h).1
 simp only [z2w]
 have hl:=z0t h3
 rw [if_pos (by rw [hl];omega),lBH,(z4E h3 (by omega)).1]
 have e:l.drop i=.agg [a,b,c]::l.drop (i+1):=by
  rw [lBQ hi]
  rw [lAG hi] at h
  injection h with h
  rw [h]
 rw [e];rfl
theorem z7c:∀ (l z0g:List Pt),z0g.length≤(pushAll z0g l).length
 | [],z0g=>lAL _
 | a::l,z0g=>by
  have:=z7c l (push z0g a)
  have h2:z0g.length≤(push z0g a).length:=by
   unfold push
   split
   ·exact lAL _
   ·simp
  exact lBK h2 this
def z3C (r:Ru) (x:List Bt):List (List Nat):=(List.range x.length).map (zAE r x)
theorem z8U {r:Ru} {x:List Bt} {p:Nat} (h:p<x.length):(z3C r x).getD p []=zAE r x p:=by
 unfold z3C
 rw [lAB,lAK,lCF h];rfl
theorem zKJ {r:Ru} {x a:List Bt} {p:Nat}:∀ n∈atR r x p a,z3e r n≤x.length-p:=fun n hn=>by
 have:=(lBT.1 hn).2
 unfold zTq z3s at this
 simp only [lAS,lAE] at this
 exact this.1.1
theorem zBR {r:Ru} {x y:List Bt} {t:Pt} (hb:InB x.length y.length t) (hx:t.1<x.length):∀ n∈z7H r x y (z3C r x) t,InB x.length y.length n:=by
 intro n hn
 obtain ⟨b1,b2,b3⟩:=hb
 unfold z7H at hn
 rcases lA5.1 hn with hn | hn
 ·obtain ⟨m,hm,rfl⟩:=lBB.1 hn
  obtain ⟨hm,hf⟩:=lBT.1 hm
  have h1:z3e r m≤x.length-t.1:=by
   have h0:∀ m∈z5z r x y (z3C r x) t,z3e r m≤x.length-t.1:=fun m hm=>by
    unfold z5z at hm
    split at hm
    ·exact zKJ m hm
    ·rw [z8U hx] at hm
     exact zKJ m hm
   unfold zFp at hm
   split at hm
   ·exact h0 m (lBT.1 hm).1
   ·exact h0 m hm
  have h2:(toW r m).length≤y.length-t.2.1:=by
   unfold z3s at hf
   simp only [lAS,lAE] at hf
   exact hf.1
  unfold goR
  exact ⟨by simp only;omega,by simp only;omega,by simp only;omega⟩
 ·split at hn
  ·rename_i hs
   simp only [lAR] at hn
   subst hn
   unfold z9E at hs
   simp only [lAS,lAE] at hs
   have:=hs.1.1.2
   exact ⟨by simp only;omega,by simp only;omega,by simp only;omega⟩
  ·cases hn
theorem zNF {r:Ru} {x y:List Bt} {t:Pt} (hx:t.1<x.length):(z7H r x y (z3C r x) t).length≤r.pairs.length+1:=by
 have h0:(z5z r x y (z3C r x) t).length≤r.pairs.length:=by
  unfold z5z
  split
  ·exact zEa
  ·rw [z8U hx];exact zEa
 have h1:(zFp r x y (z3C r x) t).length≤r.pairs.length:=by
  unfold zFp
  split
  ·exact lBK (lCD _ _) h0
  ·exact h0
 unfold z7H
 rw [lAH,lAD]
 have h2:=lBK (lCD (fun n=>z3s y t.2.1 (toW r n)) (zFp r x y (z3C r x) t)) h1
 split
 ·simp;omega
 ·simp;omega
def zHN (r:Ru) (x y:List Bt):Bool:=bfs (z7H r x y (z3C r x)) (fun t=>t.1==x.length) (fun t=>t.2.1==y.length) (z5X x.length y.length) [(0,0,0)] 0
theorem zFa:∀ {l:List Pt},∀ x∈l.map ptA,x.cells.length=3:=fun x hx=>by
 obtain ⟨t,_,rfl⟩:=lBB.1 hx
 rfl
theorem zKD {X Y:Nat} (hx:X≤60) (hy:Y≤60):z5X X Y≤1000000:=by
 unfold z5X
 have h1:(X+1)*(Y+1)≤61*61:=Nat.mul_le_mul (by omega) (by omega)
 have h2:(X+1)*(Y+1)*(X+1)≤61*61*61:=Nat.mul_le_mul h1 (by omega)
 omega
structure RuOkR (r:Ru):Prop where
 ok:∀ p∈r.places,okE p.1∧okE p.2
 fo:∀ p∈r.places,zNY p.1∧zNY p.2∧p.1.size≤100∧p.2.size≤100
 nl:r.places.length≤1000
 np:r.pairs.length≤1000
 pl:∀ p∈r.pairs,p.a.l.length≤1000∧p.b.l.length≤1000
section
variable {r:Ru} {xv yv:AV} {x y:List Bt}
theorem a41 (hr:RuOkR r) (hx:Sl 1 xv (x.map .str)) (hy:Sl 1 yv (y.map .str)) (gx:GW x) (gy:GW y) (hxl:x.length≤60) (hyl:y.length≤60) (H:z0B) :
  z0C PP 27 [z6F r,xv,yv] H (z1D H (.bool (zHN r x y))):=by
 refine z0C.plainE (z0N.bool _) ?_
 have k34:=fun H'=>a34 r hr.nl (fun p hp=>⟨(hr.ok p hp).1,(hr.ok p hp).2,(hr.fo p hp).2.2⟩) H'
 have hlx:(x.map AV.str).length=x.length:=lAD _
 have hly:(y.map AV.str).length=y.length:=lAD _
 have hsc:AV.scalar (z0T r.pn r.pairs)=true:=z1n _ _
 have hsc2:AV.scalar (z0U r.ln r.places)=true:=z1p _ _
 refine is27.c3 z0P mixed rfl ?_
 rw [lAJ]
 rw [z7r] at k34 ⊢
 refine z1E (z0V ?_)
 refine z0y (.agg [.int .i64 r.kind,z0T r.pn r.pairs,z0U r.ln r.places,.bool r.below]) rfl (by simp only [AV.shaped,lB3,hsc,hsc2];first | done | rfl) ?_
 have x3:(H++[Blk.cells [.int .i64 r.kind,z0T r.pn r.pairs,z0U r.ln r.places,.bool r.below]])[H.length]? =some (.cells [.int .i64 r.kind,z0T r.pn r.pairs,z0U r.ln r.places,.bool r.below]):=z0E
 have xo:∀ (j:Nat) (b:Blk),H[j]? =some b→(H++[Blk.cells [.int .i64 r.kind,z0T r.pn r.pairs,z0U r.ln r.places,.bool r.below]])[j]? =some b:=fun j b h=>z0G h
 have xl:(H++[Blk.cells [.int .i64 r.kind,z0T r.pn r.pairs,z0U r.ln r.places,.bool r.below]]:z0B).length=H.length+1:=by simp
 show VV _ _ _ (H++[Blk.cells [.int .i64 r.kind,z0T r.pn r.pairs,z0U r.ln r.places,.bool r.below]]) _ _
 generalize (H++[Blk.cells [.int .i64 r.kind,z0T r.pn r.pairs,z0U r.ln r.places,.bool r.below]]:z0B)=X at *
 refine z0A ?_
 refine z0L rfl (k34 X) ?_ ?_
 rotate_left
 ·rintro u V' (⟨v,hu,_⟩ | ⟨p,_,hf⟩)
  ·cases hu
  ·exact hf.elim
 rintro u V (⟨v,hu,ms,plv,hveq,hml,hpsl,hnd,hms,hge,hold⟩ | ⟨p,hu,_⟩)
 rotate_left
 ·cases hu
 cases hu
 have hA:AkV r ms plv u:=⟨hveq,hml,hpsl,hnd,hr.fo,hr.nl,hr.np,hr.pl⟩
 have vk:AskMs (z2d r.places ms) H V:=⟨hms.at_,fun j b _ h=>hold j b (xo j b h),by
  rcases lBJ V.length H.length with h | h
  ·exfalso
   have h2:=hold H.length _ x3
   have:=(lAA.1 h2).1
   omega
  ·exact h⟩
 have hge2:∀ p∈z2d r.places ms,H.length≤p.1:=fun p hp=>by have:=hge p hp;omega
 clear hveq hpsl hge hold x3 xo k34
 have k35:=fun (W:z0B) hW=>a35 (X:=W) hA hx gx (by omega) hW
 have k82:=fun (t:Pt) (rv:AV) hrv hrl hrn h1 h2 h3 (W:z0B) hW=>a82 (X:=W) (t:=t) (rv:=rv) (rows:=z3C r x) hA hx hy gx gy (by omega) (by omega) hrv hrl hrn h1 h2 h3 hW
 generalize hu0:u=av at *
 refine z0A ?_
 refine z0L rfl (k35 V vk.self) ?_ ?_
 rotate_left
 ·rintro u V' (⟨v,hu,_⟩ | ⟨p,_,hf⟩)
  ·cases hu
  ·exact hf.elim
 rintro u W (⟨v,hu,hv,wk0⟩ | ⟨p,hu,_⟩)
 rotate_left
 ·cases hu
 cases hu
 have wk:=vk.trans wk0
 have hrows:Sl 1 u ((z3C r x).map z2P):=by rw [hv];exact zPz _
 have hrl:(z3C r x).length=x.length:=by simp [z3C]
 have hrn:∀ l∈z3C r x,l.length≤1000∧∀ n∈l,n<r.pairs.length:=fun l hl=>by
  unfold z3C at hl
  obtain ⟨p,_,rfl⟩:=lBB.1 hl
  exact ⟨lBK zEa hr.np,zRm⟩
 clear hv vk wk0 hms
 refine z0A ?_
 refine z0s (out:=[.int .i64 0,.int .i64 0,.int .i64 0]) rfl rfl ?_
 refine z0S (out:=[.int .i64 0,.int .i64 0,.int .i64 0]) rfl ?_
 have y9:(W++[Blk.cells [.int .i64 0,.int .i64 0,.int .i64 0]])[W.length]? =some (.cells (z0d ([(0,0,0)].map ptA))):=z0E
 have yk:=wk.app [Blk.cells [.int .i64 0,.int .i64 0,.int .i64 0]]
 have hWl:=wk.len
 have yo:z2h 3 H.length (W++[Blk.cells [.int .i64 0,.int .i64 0,.int .i64 0]]) (.sl W.length 0 1 3) ([((0,0,0):Pt)].map ptA):=⟨zFa,.inr ⟨W.length,rfl,y9,hWl,by simp⟩⟩
 have yl:(W++[Blk.cells [.int .i64 0,.int .i64 0,.int .i64 0]]:z0B).length=W.length+1:=by simp
 generalize (W++[Blk.cells [.int .i64 0,.int .i64 0,.int .i64 0]]:z0B)=Y at *
 generalize AV.sl W.length 0 1 3=tv at *
 clear y9
 refine z0A ?_
 refine zCY ?_
 refine z0s (out:=[.int .i64 0,.int .i64 0,.int .i64 0]) rfl rfl ?_
 refine z4j (key:=ptA (0,0,0)) (v:=.bool true) (es:=[]) (c:=0) (r:=none) rfl rfl rfl z0E rfl rfl ?_
 have hup:(Y++[Blk.map [] 0]).set Y.length (zRx [] 0 (ptA (0,0,0)) (.bool true) none)=Y++[.map [(ptA (0,0,0),.bool true,0)] 1]:=by
  rw [lA6 _ _ (lAL _),lBG];rfl
 rw [hup]
 have z10:(Y++[Blk.map [(ptA (0,0,0),.bool true,0)] 1])[Y.length]? =some (.map [(ptA (0,0,0),.bool true,0)] 1):=z0E
 have zk:=yk.app [Blk.map [(ptA (0,0,0),.bool true,0)] 1]
 have zo:=yo.app [Blk.map [(ptA (0,0,0),.bool true,0)] 1]
 have zML:∀ p∈z2d r.places ms,p.1≠Y.length:=fun p hp e=>by
  obtain ⟨es,c,_,hg⟩:=yk.at_ p hp
  have:=(lAA.1 hg).1
  omega
 have zl:(Y++[Blk.map [(ptA (0,0,0),.bool true,0)] 1]:z0B).length=Y.length+1:=by simp
 have zM:H.length≤Y.length:=by omega
 have zs:SeenV ptA [(0,0,0)] [(ptA (0,0,0),.bool true,0)]:=⟨fun e he=>by
  rw [lAR] at he
  exact ⟨_,lCQ _,0,he⟩,fun t ht=>⟨_,lCQ _,by rw [lAR.1 ht]⟩⟩
 generalize (Y++[Blk.map [(ptA (0,0,0),.bool true,0)] 1]:z0B)=Z at *
 generalize Y.length=M at *
 clear hup yk yo yl wk hWl Y W
 have hbl:=zKD hxl hyl
 have hpr:zHN r x y=bfs (z7H r x y (z3C r x)) (fun t=>t.1==x.length) (fun t=>t.2.1==y.length) (z5X x.length y.length) [(0,0,0)] 0:=rfl
 rw [hpr]
 generalize hres:bfs (z7H r x y (z3C r x)) (fun t=>t.1==x.length) (fun t=>t.2.1==y.length) (z5X x.length y.length) [(0,0,0)] 0=res at *
 clear hpr
 refine z0A ?_
 refine z0H (z5X x.length y.length) (fun i al W=>∃ z0g tv es c,al=[(1,xv),(2,yv),(7,av),(8,u),(9,tv),(10,.map M),(11,.int .i64 i)]∧AskMs (z2d r.places ms) H W∧W[M]? =some (.map es c)∧SeenV ptA z0g es∧z2h 3 H.length W tv (z0g.map ptA)∧TodoOk x.length y.length z0g∧i≤z0g.length ∧
  bfs (z7H r x y (z3C r x)) (fun t=>t.1==x.length) (fun t=>t.2.1==y.length) (z5X x.length y.length-i) z0g i=res) ⟨[(0,0,0)],tv,_,_,rfl,zk,z10,zs,zo,⟨by simp,fun t ht=>by rw [lAR.1 ht];exact ⟨by simp,by simp,by simp⟩⟩,by simp,hres⟩ ?_
 clear zk z10 zs zo zl hres Z tv
 rintro i _ W hi ⟨z0g,tv,es,c,rfl,wk,wm,ws,wo,wt,wi,wres⟩
 have hlen:=wt.len
 have hmt:(z0g.map ptA).length=z0g.length:=lAD _
 have e1:decide ((i:Int)<(z0g.length:Int))=decide (i<z0g.length):=by simp only [lAP];omega
 refine z0A ?_
 refine zHB rfl wo ?_
 rw [hmt]
 refine z0A ?_
 rw [e1]
 cases hc:decide (i<z0g.length)
 ·simp only [lAC] at hc
  rw [zKG (by omega)] at wres
  refine z0A ?_
  refine z0W rfl (.inl ⟨_,rfl,by rw [←wres];rfl,?_⟩)
  exact ⟨fun p hp=>(by cases hp),fun j b _ hb=>wk.old j b (fun p hp e=>by
   have:=hge2 p hp
   have:=(lAA.1 hb).1
   omega) hb,wk.len⟩
 simp only [lAE] at hc
 obtain ⟨t,ht⟩:=z0M (l:=z0g) (i:=i) hc
 have htv:(z0g.map ptA)[i]? =some (.agg [.int .i64 t.1,.int .i64 t.2.1,.int .i64 t.2.2]):=by rw [lAK,ht];rfl
 have hInB:=wt.inb t (lAF ht)
 obtain ⟨f,hf⟩:∃ f,z5X x.length y.length-i=f+1:=⟨z5X x.length y.length-i-1,by omega⟩
 rw [hf,zKF ht] at wres
 obtain ⟨id,hid,hidg⟩:∃ id,tv=.sl id 0 z0g.length 3∧W[id]? =some (.cells (z0d (z0g.map ptA))):=by
  rcases wo.2 with ⟨h,_⟩ | ⟨id,h,h2,_⟩
  ·have:z0g=[]:=by simpa using h
   rw [this] at hc;simp at hc
  ·exact ⟨id,by rw [h,hmt],h2⟩
 subst hid
 refine z0A ?_
 refine z1s (v:=ptA t) rfl hidg (zGP zFa htv) ?_
 refine z0A ?_
 refine z0z (ws:=[.int .i64 t.1,.int .i64 t.2.1,.int .i64 t.2.2]) rfl rfl rfl rfl rfl rfl ?_
 have y12:(W++[Blk.cells [.int .i64 t.1,.int .i64 t.2.1,.int .i64 t.2.2]])[W.length]? =some (.cells [.int .i64 t.1,.int .i64 t.2.1,.int .i64 t.2.2]):=z0E
 have yk:=wk.app [Blk.cells [.int .i64 t.1,.int .i64 t.2.1,.int .i64 t.2.2]]
 have ym:=z0G (G:=[Blk.cells [.int .i64 t.1,.int .i64 t.2.1,.int .i64 t.2.2]]) wm
 have yo:=wo.app [Blk.cells [.int .i64 t.1,.int .i64 t.2.1,.int .i64 t.2.2]]
 have yl:(W++[Blk.cells [.int .i64 t.1,.int .i64 t.2.1,.int .i64 t.2.2]]:z0B).length=W.length+1:=by simp
 generalize (W++[Blk.cells [.int .i64 t.1,.int .i64 t.2.1,.int .i64 t.2.2]]:z0B)=Y at *
 generalize W.length=b12 at *
 have e2:((t.1:Int)==((x.map AV.str).length:Int))=(t.1==x.length):=by rw [hlx,lBM];simp;omega
 have e3:((t.2.1:Int)==((y.map AV.str).length:Int))=(t.2.1==y.length):=by rw [hly,lBM];simp;omega
 refine z0A ?_
 rw [e2]
 cases hfin:(t.1==x.length)
 rotate_left
 ·rw [hfin,if_pos rfl] at wres
  refine z0A ?_
  rw [e3]
  cases hok:(t.2.1==y.length)
  rotate_left
  ·rw [hok,if_pos rfl] at wres
   refine z0A ?_
   refine z0W rfl (.inl ⟨_,rfl,by rw [←wres];rfl,?_⟩)
   exact ⟨fun p hp=>(by cases hp),fun j b _ hb=>yk.old j b (fun p hp e=>by
    have:=hge2 p hp
    have:=(lAA.1 hb).1
    omega) hb,yk.len⟩
  ·rw [hok,if_neg (by simp)] at wres
   refine z0A ?_
   refine ⟨by omega,z0g,_,es,c,rfl,yk,ym,ws,yo,wt,by omega,?_⟩
   rw [←wres]
   congr 1
   omega
 rw [hfin,if_neg (by simp)] at wres
 have htx:t.1<x.length:=by
  have h1:=hInB.1
  have h2:t.1≠x.length:=by simpa using hfin
  omega
 have hbox:=zBR (r:=r) (x:=x) (y:=y) hInB htx
 have hpl0:=zNF (r:=r) (y:=y) htx
 have hpn:=hr.np
 have hrow0:=hrn _ (lAF (show (z3C r x)[t.1]? =some (zAE r x t.1) by unfold z3C;rw [lAK,lCF htx];rfl))
 refine z0A ?_
 refine z0L rfl (k82 t u hrows hrl hrn htx hInB.2.1 hInB.2.2 Y yk.self) ?_ ?_
 rotate_left
 ·rintro u V' (⟨v,hu,_⟩ | ⟨p,_,hf⟩)
  ·cases hu
  ·exact hf.elim
 rintro u2 W1 (⟨v,hu,hv,hin⟩ | ⟨p,hu,_⟩)
 rotate_left
 ·cases hu
 cases hu
 have k1:=yk.trans hin
 have m1:=hin.old _ _ zML ym
 have o1:z2h 3 H.length W1 (.sl id 0 z0g.length 3) (z0g.map ptA):=⟨yo.1,.inr ⟨id,by rw [hmt],hin.old _ _ (fun p hp e=>zHX yk yo p hp z0g.length (by rw [e])) (by
  rcases yo.2 with ⟨_,h⟩ | ⟨id',h,h2,_⟩
  ·cases h
  ·injection h with h;subst h;exact h2),by
  rcases yo.2 with ⟨_,h⟩ | ⟨id',h,_,h3,_⟩
  ·cases h
  ·injection h with h;subst h;exact h3,by
  rcases yo.2 with ⟨_,h⟩ | ⟨id',h,_,_,h4⟩
  ·cases h
  ·exact h4⟩⟩
 have hpts:Sl 3 u2 ((z7H r x y (z3C r x) t).map ptA):=by rw [hv];exact zSF _
 generalize hnx:z7H r x y (z3C r x) t=pts at *
 have hlp:(pts.map ptA).length=pts.length:=lAD _
 have hM1:=(lAA.1 m1).1
 clear hv hu0 yk ym yo y12 hin wk wm wo hidg e2 e3 yl
 generalize htv0:AV.sl id 0 z0g.length 3=tv at *
 refine z0A ?_
 refine z0H pts.length (fun k al W=>∃ tv es c,al=[(1,xv),(2,yv),(7,av),(8,u),(9,tv),(10,.map M),(11,.int .i64 i),(13,u2),(14,.int .i64 k)]∧AskMs (z2d r.places ms) H W∧W[M]? =some (.map es c)∧SeenV ptA (pushAll z0g (pts.take k)) es∧z2h 3 H.length W tv ((pushAll z0g (pts.take k)).map ptA)∧TodoOk x.length y.length (pushAll z0g (pts.take k))) ⟨_,_,_,rfl,k1,m1,ws,o1,wt⟩ ?_
 clear k1 m1 ws o1 hM1 htv0 htv W1 Y c es
 rintro k _ W hk ⟨tv,es,c,rfl,wk,wm,ws,wo,wtk⟩
 have e4:decide ((k:Int)<((pts.map ptA).length:Int))=decide (k<pts.length):=by rw [hlp];simp only [lAP];omega
 refine z0A ?_
 rw [e4]
 cases hc2:decide (k<pts.length)
 ·simp only [lAC] at hc2
  have htk:pts.take k=pts:=lAQ (by omega)
  rw [htk] at ws wo wtk
  have hge3:z0g.length≤(pushAll z0g pts).length:=z7c _ _
  refine z0A ?_
  refine ⟨by omega,pushAll z0g pts,tv,es,c,rfl,wk,wm,ws,wo,wtk,by omega,?_⟩
  rw [←wres]
  congr 1
  omega
 simp only [lAE] at hc2
 obtain ⟨n,hn⟩:=z0M (l:=pts) (i:=k) hc2
 have hnv:(pts.map ptA)[k]? =some (.agg [.int .i64 n.1,.int .i64 n.2.1,.int .i64 n.2.2]):=by rw [lAK,hn];rfl
 have hnb:=hbox n (lAF hn)
 have hsn:=zFZ (z0g:=z0g) hn
 have hwt2:=wtk.push hnb
 rw [←hsn] at hwt2
 generalize pushAll z0g (pts.take k)=td at *
 generalize hP:pushAll z0g (pts.take (k+1))=td2 at *
 obtain ⟨rr,hf1,hf2,hf3⟩:=ws.find zSh (t:=n)
 have hMl:=(lAA.1 wm).1
 refine z0A ?_
 refine z8L (key:=ptA n) (es:=es) (c:=c) (r:=rr) rfl rfl wm rfl hf1 hf2 ?_
 by_cases hm:n∈td
 ·rw [decide_eq_true hm]
  have:td2=td:=by rw [hsn];unfold push;rw [if_pos hm]
  rw [this] at hwt2
  refine z0A ?_
  exact ⟨hc2,tv,es,c,rfl,wk,wm,by rw [this];exact ws,by rw [this];exact wo,by rw [this];exact hwt2⟩
 rw [decide_eq_false hm]
 have hrr:=hf3 hm
 subst hrr
 have ws2:=ws.push hm c
 rw [←hsn] at ws2
 have htd2:td2=td++[n]:=by rw [hsn];unfold push;rw [if_neg hm]
 have htl:=wtk.len
 refine z0A ?_
 refine z4j (key:=ptA n) (v:=.bool true) (es:=es) (c:=c) (r:=none) rfl rfl rfl wm rfl hf1 ?_
 show VV _ _ _ (W.set M (.map (es++[(ptA n,.bool true,c)]) (c+1))) _ _
 have zm:(W.set M (.map (es++[(ptA n,.bool true,c)]) (c+1)))[M]? =some (.map (es++[(ptA n,.bool true,c)]) (c+1)):=lAT hMl
 have zk:AskMs (z2d r.places ms) H (W.set M (.map (es++[(ptA n,.bool true,c)]) (c+1))):=wk.own zM zML
 have zo:z2h 3 H.length (W.set M (.map (es++[(ptA n,.bool true,c)]) (c+1))) tv (td.map ptA):=by
  obtain ⟨h0,h | ⟨id,h1,h2,h3,h4⟩⟩:=wo
  ·exact ⟨h0,.inl h⟩
  ·refine ⟨h0,.inr ⟨id,h1,z0K h2 fun e=>?_,h3,h4⟩⟩
   subst e
   rw [wm] at h2;cases h2
 generalize W.set M (.map (es++[(ptA n,.bool true,c)]) (c+1))=Z at *
 refine z0A ?_
 refine z0S (out:=[.int .i64 n.1,.int .i64 n.2.1,.int .i64 n.2.2]) rfl ?_
 refine z3w (v:=tv) rfl zo rfl rfl rfl (by rw [lAD];omega) zk.len ?_
 intro tv' T hko hpres hlen2 hfr
 have hmo:td.map ptA++[.agg [.int .i64 n.1,.int .i64 n.2.1,.int .i64 n.2.2]]=td2.map ptA:=by rw [htd2,lBE];rfl
 rw [hmo] at hko
 have hneM:∀ k,tv≠.sl M 0 k 3:=fun k e=>by
  rcases zo.2 with ⟨_,h⟩ | ⟨id,h,h2,_⟩
  ·rw [h] at e;cases e
  ·rw [h] at e
   injection e with e
   subst e
   rw [zm] at h2;cases h2
 refine z0A ?_
 exact ⟨hc2,tv',_,_,rfl,zk.growG zo (lAL _) hpres hlen2,hpres _ _ hneM zm,ws2,hko,hwt2⟩
end
theorem zYM {xv yv:AV} {xs ys:List AV} (hx:Sl 1 xv xs) (hy:Sl 1 yv ys):z4T (if 2*1=0 then [] else z1C 2 [.nilslice]) [(0,1),(1,1)] [xv,yv]=some [xv,yv]:=by
 cases hx<;>cases hy<;>rfl
def z9X (r:Ru) (sg:List Bt) (x y:List Bt):Bool × Int :=
 if zQr r sg [x,y] != 0 then (false,zQr r sg [x,y]) else (zHN r x y,0)
theorem zMg (b:Bool) (e:Int):z0N (.tuple [.bool b,.int .i64 e]):=z0N.tuple fun x hx=>by
 simp only [lAV,lA7,or_false] at hx
 rcases hx with rfl | rfl
 ·exact z0N.bool _
 ·exact z0N.int _ _
structure HoldOkR (r:Ru) (x y:List Bt):Prop where
 ru:RuOkR r
 gx:GW x
 gy:GW y
 xl:x.length≤60
 yl:y.length≤60
section
variable {r:Ru} {sv xv yv:AV} {sg x y:List Bt}
theorem a16 (hsv:Sl 1 sv (sg.map .str)) (hsw:okW sg) (hsn:sg.length≤1000000) (hx:Sl 1 xv (x.map .str)) (hy:Sl 1 yv (y.map .str)) (hxw:okW x) (hyw:okW y) (hxn:x.length≤1000000) (hyn:y.length≤1000000) (hr:okR r) (hoc:(z7y r).length≤1000000)
  (hgood:zQr r sg [x,y]=0→HoldOkR r x y) (H:z0B):z0C PP 9 [z6F r,sv,xv,yv] H (z1D H (.tuple [.bool (z9X r sg x y).1,.int .i64 (z9X r sg x y).2])):=by
 refine z0C.plainE (zMg _ _) ?_
 have hws:WsV (.list 1 [xv,yv]) [xv,yv] [x,y]:=⟨.list _,rfl,fun i v w h1 h2=>by
  match i with
  | 0 =>
   simp only [lAY,Option.some.injEq] at h1 h2
   subst h1;subst h2
   exact ⟨hx,hxw,hxn⟩
  | 1 =>
   simp only [lBD,lAY,Option.some.injEq] at h1 h2
   subst h1;subst h2
   exact ⟨hy,hyw,hyn⟩
  | i+2=>simp at h1,by simp⟩
 have hc2:∀ v∈[xv,yv],v.cells=[v]:=fun v hv=>by
  simp only [lAV,lA7,or_false] at hv
  rcases hv with rfl | rfl
  ·exact (z3b hx).2.1
  ·exact (z3b hy).2.1
 have k33:=fun H'=>a33 hsv hsw hsn hws hr hoc H'
 have k41:=fun (hg:HoldOkR r x y) H'=>a41 hg.ru hx hy hg.gx hg.gy hg.xl hg.yl H'
 have hsc:AV.scalar (z0T r.pn r.pairs)=true:=z1n _ _
 have hsc2:AV.scalar (z0U r.ln r.places)=true:=z1p _ _
 refine is9.c4 z0P mixed rfl ?_
 rw [lAJ]
 rw [z7r] at k33 k41 ⊢
 generalize z0T r.pn r.pairs=pv0 at *
 generalize z0U r.ln r.places=lv0 at *
 refine z1E (z0V ?_)
 refine z0y (.agg [.int .i64 r.kind,pv0,lv0,.bool r.below]) rfl (by simp only [AV.shaped,lB3,hsc,hsc2];first | done | rfl) ?_
 have x4:(H++[Blk.cells [.int .i64 r.kind,pv0,lv0,.bool r.below]])[H.length]? =some (.cells [.int .i64 r.kind,pv0,lv0,.bool r.below]):=z0E
 have xk:=zCE (H:=H).app [Blk.cells [.int .i64 r.kind,pv0,lv0,.bool r.below]]
 have xl:(H++[Blk.cells [.int .i64 r.kind,pv0,lv0,.bool r.below]]:z0B).length=H.length+1:=by simp
 show VV _ _ _ (H++[Blk.cells [.int .i64 r.kind,pv0,lv0,.bool r.below]]) _ _
 generalize (H++[Blk.cells [.int .i64 r.kind,pv0,lv0,.bool r.below]]:z0B)=X at *
 refine z0A ?_
 refine z0S (out:=[xv,yv]) (zYM hx hy) ?_
 refine z0L (R:=z1D ((X++[Blk.cells [xv,yv]]).set X.length .dead) (.int .i64 (zQr r sg [x,y]))) rfl (z0C.sealArgs (id:=X.length) (args':=[.agg [.int .i64 r.kind,pv0,lv0,.bool r.below],sv,.list 1 [xv,yv]]) z0E rfl (fun i=>?_) (k33 _)) ?_ ?_
 ·match i with
  | 0=>exact .refl _
  | 1=>exact .refl _
  | 2=>exact .sl 0 2 1 [xv,yv] rfl (fun v hv=>by rw [hc2 v hv];rfl) (by rw [z1J hc2];rfl) (by simp)
  | i+3=>exact .refl _
 rotate_left
 ·rintro u V' ⟨hu,_⟩
  cases hu
 rintro u V ⟨hu,rfl⟩
 cases hu
 have vk:AskMs [] H ((X++[Blk.cells [xv,yv]]).set X.length .dead):=(xk.app _).own (by omega) (fun p hp=>by cases hp)
 have v4:((X++[Blk.cells [xv,yv]]).set X.length .dead)[H.length]? =some (.cells [.int .i64 r.kind,pv0,lv0,.bool r.below]):=z0K (z0G x4) (by omega)
 generalize (X++[Blk.cells [xv,yv]]).set X.length .dead=Y at *
 clear x4 xk xl k33
 unfold z9X
 refine z0A ?_
 cases h1:(zQr r sg [x,y] != 0)
 rotate_left
 ·rw [if_pos rfl]
  refine z0A ?_
  exact z0W rfl (.inl ⟨_,rfl,rfl,vk⟩)
 rw [if_neg (by simp)]
 have hg:=hgood (by simpa using h1)
 refine z0A ?_
 refine z0J rfl (k41 hg _) ?_
 refine z0A ?_
 exact z0W rfl (.inl ⟨_,rfl,rfl,vk⟩)
end
set_option maxHeartbeats 4000000
theorem a9 {wsv:AV} {vs:List AV} {ws:List (List Bt)} (hs:Sl 1 wsv vs) (hl:vs.length=ws.length) (hone:∀ v∈vs,v.cells=[v])
  (hg:∀ (i:Nat) (v:AV) (w:List Bt),vs[i]? =some v→ws[i]? =some w→Sl 1 v (w.map .str)∧okT w) (hn:ws.length≤1000) (H:z0B):z0C PP 6 [wsv] H (z1D H (.int .i64 (ws.foldl nww 0:Nat))):=by
 refine z0C.gives (is6.c1 z0P mixed rfl ?_)
 rw [lAJ]
 refine z0A ?_
 refine z0H ws.length (fun i al H'=>∃ n:Nat,al=[(0,wsv),(3,.int .i64 n),(4,.int .i64 i)]∧H'=H∧n≤i*1000000000000∧(ws.drop i).foldl nww n=ws.foldl nww 0) ⟨0,rfl,rfl,by omega,rfl⟩ ?_
 rintro i _ H hi ⟨n,rfl,rfl,hnb,hv⟩
 have e1:decide ((i:Int)<(vs.length:Int))=decide (i<ws.length):=by rw [hl];simp only [lAP];omega
 refine z0A ?_
 rw [e1]
 cases hc:decide (i<ws.length)
 ·simp only [lAC] at hc
  rw [lDE (by omega)] at hv
  refine z0A ?_
  rw [←hv]
  exact z0W rfl (z0w (z0N.int _ _))
 simp only [lAE] at hc
 obtain ⟨w,hw⟩:=z0M (l:=ws) (i:=i) hc
 obtain ⟨v,hvi⟩:=z0M (l:=vs) (i:=i) (by omega)
 obtain ⟨hsl,hok⟩:=hg i v w hvi hw
 have hcell:=hone v (lAF hvi)
 unfold okT at hok
 have lw:(w.map AV.str).length=w.length:=lAD _
 rw [z2a hw,lDU] at hv
 refine z0A ?_
 rw [hcell]
 refine z0A ?_
 rw [lw]
 refine z1N (a:=n) (b:=w.length) (by rfl) (by rfl) (by omega) ?_
 refine z0A ?_
 refine z0H w.length (fun j al H'=>∃ m:Nat,al=[(0,wsv),(3,.int .i64 m),(4,.int .i64 i),(5,.int .i64 j)]∧H'=H∧m≤n+w.length+tot (w.take j)∧nww n w=nw m (w.drop j)) ⟨n+w.length,rfl,rfl,by omega,rfl⟩ ?_
 rintro j _ H hj ⟨m,rfl,rfl,hmb,hm⟩
 have ht:=zAd w j
 have e2:decide ((j:Int)<((w.map AV.str).length:Int))=decide (j<w.length):=by rw [lw];simp only [lAP];omega
 refine z0A ?_
 rw [hcell]
 refine z0A ?_
 rw [e2]
 cases hc2:decide (j<w.length)
 ·simp only [lAC] at hc2
  rw [lDE (by omega)] at hm
  have hm':nww n w=m:=hm
  refine z0A ?_
  exact ⟨hc,m,rfl,rfl,by rw [lAQ (by omega)] at hmb;omega,by rw [←hm'];exact hv⟩
 simp only [lAE] at hc2
 obtain ⟨c,hcg⟩:=z0M (l:=w) (i:=j) hc2
 have hu:(w.map AV.str)[j]? =some (.str c):=by rw [lAK,hcg];rfl
 rw [z2a hcg] at hm
 simp only [nw] at hm
 refine z0A ?_
 refine z0R _ rfl ?_ ?_<;>intro hq
 ·simp only [lAE] at hq
  rw [if_pos (by omega)] at hm
  have h1:=zDY hcg
  have h2:=zAd w (j+1)
  refine z0A ?_
  rw [hcell]
  refine z0A ?_
  refine z1N (a:=m) (b:=c.length) (by rfl) (by rfl) (by omega) ?_
  refine z0A ?_
  exact ⟨hc2,m+c.length,rfl,rfl,by omega,hm⟩
 ·simp only [lAC] at hq
  rw [if_neg (by omega)] at hm
  refine z0A ?_
  exact ⟨hc,m,rfl,rfl,by omega,by rw [←hm];exact hv⟩
end Go.Ab
