/-
  Chapter 42: the text of a policy, as a plain function.
-/
import Derived.Test.YthabojhnliomnaaGreatDoorPolM
import Derived.Test.YthabojhnliomnaaGreatDoorPolD
namespace Go.Proofs.YthabojhnliomnaaGreatDoor
open Go.RowKit
set_option linter.unusedVariables false

theorem toL_app (a b : ByteArray) : toL (a ++ b) = toL a ++ toL b := by unfold toL; rw [ByteArray.data_append, Array.toList_append]
theorem toL_mk (l : List UInt8) : toL ⟨l.toArray⟩ = l := rfl
theorem toL_len (a : ByteArray) : (toL a).length = a.size := by unfold toL; rw [Array.length_toList]; rfl
theorem mk_toL (a : ByteArray) : (⟨(toL a).toArray⟩ : ByteArray) = a := toL_inj rfl
def wArg : List UInt8 := [97, 114, 103]
def wRes : List UInt8 := [114, 101, 115, 117, 108, 116]
def rootT (x : Acp) : List UInt8 := if x.root = 1 then wArg ++ Lib.decDigits x.n.toNat else wRes
def fldT (l : List ByteArray) : List UInt8 := l.flatMap fun f => 46 :: toL f
def acpT (x : Acp) : List UInt8 := rootT x ++ fldT x.fields ++ (if x.star then [42] else [])
def ruleT (x : Rul) : List UInt8 := toL (wordS x.kind) ++ [32] ++ toL x.cls ++ [32] ++ toL x.mth ++ [32] ++ acpT x.pth ++ [32] ++ toL x.tag ++ [10]
def stN (st : List ByteArray) (i : Int) : ByteArray := (st[i.toNat]?).getD ⟨#[]⟩
def wProto : List UInt8 := [112, 114, 111, 116, 111, 99, 111, 108, 32]
def wStates : List UInt8 := [115, 116, 97, 116, 101, 115]
def wStart : List UInt8 := [115, 116, 97, 114, 116, 32]
def wError : List UInt8 := [101, 114, 114, 111, 114, 32]
def wMove : List UInt8 := [109, 111, 118, 101, 32]
def wEnd : List UInt8 := [101, 110, 100, 10]
def moveT (st : List ByteArray) (m : Mov) : List UInt8 := wMove ++ toL (stN st m.src) ++ [32] ++ toL m.mth ++ [32] ++ toL (stN st m.dst)
def headT (p : Ptc) : List (List UInt8) := [wProto ++ toL p.cls, wStates ++ p.states.flatMap (fun s => 32 :: toL s), wStart ++ toL (stN p.states p.start), wError ++ toL (stN p.states p.err)]
def ptcT (p : Ptc) : List UInt8 := (headT p ++ p.moves.map (moveT p.states)).flatMap (fun l => l ++ [10]) ++ wEnd
def polT (p : Pol) : List UInt8 := p.rules.flatMap ruleT ++ p.protocols.flatMap ptcT
def bsOf (l : List UInt8) : ByteArray := ⟨l.toArray⟩
theorem bsOf_toL {a : ByteArray} {l : List UInt8} (h : toL a = l) : a = bsOf l := by unfold bsOf; rw [← h, mk_toL]
/-- What Text returns. -/
def textR (p : Pol) : ByteArray × Int := if (polE p).2 ≠ 0 then (⟨#[]⟩, (polE p).2) else if 65536 < (polT p).length then (⟨#[]⟩, 3) else (bsOf (polT p), 0)
end Go.Proofs.YthabojhnliomnaaGreatDoor
