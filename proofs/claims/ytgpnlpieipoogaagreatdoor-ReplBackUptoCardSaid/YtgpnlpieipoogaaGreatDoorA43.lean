/- Part 43 of the proof. -/
import Derived.Test.YtgpnlpieipoogaaGreatDoorA42
set_option linter.unusedVariables false
set_option linter.unusedSimpArgs false
namespace Go.Ab
open Go
set_option maxRecDepth 100000
set_option maxHeartbeats 8000000
def toGt (l:Bt):Nat:=(l.takeWhile (· != 62)).length
def depF:Nat→Int→Bt→Int
 | 0,d,_=>d
 | _+1,d,[]=>d
 | n+1,d,c::t=>if c==92 then depF n d (t.drop 1) else if c==60 then depF n d ((c::t).drop (toGt (c::t)+1))
  else if c==91&&(t.take 1==[93]) then depF n d (t.drop 1) else if c==91 then depF n (d+1) t else if c==93 then depF n (d-1) t else depF n d t
def bareF:Nat→Int→Bt→Bool
 | 0,_,_=>false
 | _+1,_,[]=>false
 | n+1,d,c::t=>if c==92 then bareF n d (t.drop 1) else if c==60 then bareF n d ((c::t).drop (toGt (c::t)+1))
  else if c==91 then bareF n (d+1) t else if c==93 then bareF n (d-1) t else if c==61&&d==0 then true else bareF n d t
theorem bareF_nil (n:Nat) (d:Int):bareF n d []=false:=by cases n<;>rfl
def bareR (s:Bt):Bool:=bareF (s.length+1) 0 s
theorem isAl_ne {c:UInt8} (h:isAl c=true) {d:UInt8} (hd:isAl d=false):c≠d:=fun e=>by rw [e,hd] at h;cases h
theorem z3H (c:UInt8) (t:Bt):tok (c::t)=if isAl c then some [c] else if c==60 then (if angOk (c::t) then some ((c::t).take (angN (c::t)+1)) else none)
  else if c==92&&isSig (t.headD 0) && !isAl (t.headD 0) then some ((c::t).take 2) else if c==61&&t.headD 0==62 then some [61,62] else if c==91&&t.headD 0==93 then some [91,93]
  else if sg15.contains c then some [c] else none:=by
 have h0:tok (c::t)=if (c::t).take 2==[61,62]||(c::t).take 2==[91,93] then some ((c::t).take 2)
  else if isAl c||sg15.contains c then some [c]
  else if c==92&&(t != [])&&isSig (t.headD 0) && !isAl (t.headD 0) then some ((c::t).take 2)
  else if c==60&&angOk (c::t) then some ((c::t).take (angN (c::t)+1)) else none:=rfl
 have e1:((c::t).take 2==[61,62])=(c==61&&t.headD 0==62):=by
  cases t with
  | nil=>cases hc:c==61<;>simp_all
  | cons d t =>
   show ((c::d::List.take 0 t)==_)=(c==61&&d==62)
   simp [List.take_zero,Bool.and_true]
 have e2:((c::t).take 2==[91,93])=(c==91&&t.headD 0==93):=by
  cases t with
  | nil=>cases hc:c==91<;>simp_all
  | cons d t =>
   show ((c::d::List.take 0 t)==_)=(c==91&&d==93)
   simp [List.take_zero,Bool.and_true]
 have e3:(c==92&&(t != [])&&isSig (t.headD 0) && !isAl (t.headD 0))=(c==92&&isSig (t.headD 0) && !isAl (t.headD 0)):=by
  cases t with
  | nil =>
   have:isSig (([]:Bt).headD 0)=false:=by decide
   rw [this];simp
  | cons d t =>
   have:((d::t) != ([]:Bt))=true:=rfl
   rw [this,Bool.and_true]
 have e4:((c::t).take 2==[61,62])=true→(c::t).take 2=[61,62]:=fun h=>by simpa using h
 have e5:((c::t).take 2==[91,93])=true→(c::t).take 2=[91,93]:=fun h=>by simpa using h
 rw [h0,e3]
 generalize (c::t).take 2=u at *
 generalize (c::t).take (angN (c::t)+1)=v at *
 generalize angOk (c::t)=o at *
 generalize t.headD 0=d at *
 rw [e1] at e4 ⊢
 rw [e2] at e5 ⊢
 clear e1 e2 e3 h0
 cases ha:isAl c
 ·by_cases h60:c=60
  ·subst h60
   cases o<;>rfl
  ·have n60:(c==60)=false:=by simpa using h60
   rw [n60]
   by_cases h92:c=92
   ·subst h92
    cases isSig d<;>cases isAl d<;>rfl
   ·have n92:(c==92)=false:=by simpa using h92
    rw [n92]
    cases h1:(c==61&&d==62)
    ·cases h2:(c==91&&d==93)
     ·simp
     ·simp [e5 h2]
    ·simp [e4 h1]
 ·have n1:(c==61)=false:=by simpa using isAl_ne ha (d:=61) (by decide)
  have n2:(c==91)=false:=by simpa using isAl_ne ha (d:=91) (by decide)
  rw [n1,n2];simp
end Go.Ab
