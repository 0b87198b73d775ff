/- Chapter 12: the answer's access: the types of a load or a store. Chapter 12: the answer's checkCall: the types of a call. -/
import Derived.Test.YtmhdambkchlilaaGreatDoorJRf
namespace Go.Proofs.YtmhdambkchlilaaGreatDoor
open Go.RowKit
set_option linter.unusedVariables false
theorem avC{w:World}{AV:Option Addr}{vars:List Fld}{v:Int}(hv:Sl Lay.fld w AV vars)(h:varB vars.length v=true):∃b o:Nat,AV=some ⟨b,o,none⟩:=by
 unfold varB at h;simp only[Bool.and_eq_true,decide_eq_true_eq] at h;obtain⟨b,o,e,_⟩:=hv.fld_at (i:=v.toNat) (by omega);exact⟨b,o,e⟩
theorem tyC{w:World}{b o:Nat}{vars:List Fld}{v:Int}(hv:Sl Lay.fld w (some ⟨b,o,none⟩) vars)(h:varB vars.length v=true) :
  ∃k:Nat,v=k∧k<vars.length∧(k:Int)<(vars.length:Int)∧∀W,Below w.heap.size w W→b<W.heap.size∧W.cell? ⟨b,o+k*2+1,none⟩=some (.string (tyOf vars v)):=by
 unfold varB at h;simp only[Bool.and_eq_true,decide_eq_true_eq] at h;have hk:v.toNat<vars.length:=by omega
 refine⟨v.toNat,by omega,hk,by omega,fun W hW=>?_⟩;obtain⟨b1,o1,e,hb,_,d1⟩:=(hv.mono hW).fld_at hk;simp only[Option.some.injEq,Addr.mk.injEq] at e;obtain⟨rfl,rfl,_⟩:=e;refine⟨hb,?_⟩;unfold tyOf;rw[List.getElem?_eq_getElem hk,d1]
 rfl
end Go.Proofs.YtmhdambkchlilaaGreatDoor
