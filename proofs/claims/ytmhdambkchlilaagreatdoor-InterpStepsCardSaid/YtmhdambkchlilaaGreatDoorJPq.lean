/- Chapter 10: the answer's put: a string in its place in an ascending list. (The text of CfgG, for strings.) Chapter 10: the answer's Subs and Targets in any hierarchy. Chapters 15, 42: the answer's Dispatch; the functions that a rule means (the program's and the answer's). -/
import Derived.Test.YtmhdambkchlilaaGreatDoorJPolA
import Derived.Test.YtmhdambkchlilaaGreatDoorJGk
import Derived.Test.YtmhdambkchlilaaGreatDoorJPl
import Derived.Test.YtmhdambkchlilaaGreatDoorJRa
import Derived.Test.YtmhdambkchlilaaGreatDoorJHc
import Derived.Test.YtmhdambkchlilaaGreatDoorJGb
import Derived.Test.YtmhdambkchlilaaGreatDoorJGh
namespace Go.Proofs.YtmhdambkchlilaaGreatDoor
open Go.RowKit
set_option linter.unusedVariables false
def kK(cs:List Cls)(fs:List Fun)(l m:ByteArray):Int:=match sgAt cs (zU cs l m) with
 |none=> -1
 |some g=>if g.static then -1 else qE fs (nmAt cs (zU cs l m).1) m
theorem aiH{cs:List Cls}{fs:List Fun}{l m:ByteArray}{w':World}{nm:ByteArray}{g:Sg}{A:Option Addr}{c:Nat}{ok:Bool}(h:LokR cs (zU cs l m) w' nm g A c ok):kK cs fs l m=if(ok && !g.static)=true then qE fs nm m else -1:=by
 unfold kK
 cases ok with
 |false=>rw[h.no rfl];rfl
 |true=>
  obtain⟨h1,h2⟩:=h.yes rfl;rw[h1,h2];show(if g.static=true then(-1:Int) else _)=_
  cases g.static with
  |true=>rfl
  |false=>rfl
end Go.Proofs.YtmhdambkchlilaaGreatDoor
