/-
  Chapter 13: typer.call: the error of the types of a call.
  Chapter 13: typer.field: the error of the types of a load or store.
-/
import Derived.Test.YtmhdambkchlilaaGreatDoorJUh
namespace Go.Proofs.YtmhdambkchlilaaGreatDoor
open Go.RowKit
set_option linter.unusedVariables false

def callG (cs : List Cls) (vars : List Fld) (c : Ins) (g : Sg) (i : Nat) : Bool := !fitsB cs (tyOf vars ((c.args[i]?).getD 0)) ((g.params[i]?).getD ByteArray.empty)
def callZ (cs : List Cls) (vars : List Fld) (c : Ins) (g : Sg) : Bool := decide (c.dst = -1) || !g.result.toList.isEmpty && fitsB cs g.result (tyOf vars c.dst)
theorem callE_len {cs : List Cls} {vars : List Fld} {c : Ins} {g : Sg} (h : c.args.length ≠ g.params.length) : callE cs vars c g = 9 := by unfold callE; rw [if_pos h]
theorem callE_hit {cs : List Cls} {vars : List Fld} {c : Ins} {g : Sg} (h : c.args.length = g.params.length) {k : Nat} (hk : k < c.args.length) (hh : callG cs vars c g k = true) : callE cs vars c g = 8 := by
  unfold callE
  rw [if_neg (by omega)]
  exact if_pos (List.any_eq_true.2 ⟨k, by simpa using hk, hh⟩)
theorem callE_pass {cs : List Cls} {vars : List Fld} {c : Ins} {g : Sg} (h : c.args.length = g.params.length) (hh : ∀ k, k < c.args.length → callG cs vars c g k = false) : callE cs vars c g = typed (callZ cs vars c g) := by
  unfold callE callZ
  rw [if_neg (by omega)]
  exact if_neg (fun h => by
    obtain ⟨k, hk, h⟩ := List.any_eq_true.1 h
    have := hh k (by simpa using hk)
    unfold callG at this
    rw [this] at h; cases h)
theorem callG_at {cs : List Cls} {vars : List Fld} {c : Ins} {g : Sg} {k : Nat} (h1 : k < c.args.length) (h2 : k < g.params.length) : callG cs vars c g k = !fitsB cs (tyOf vars c.args[k]) g.params[k] := by
  unfold callG
  rw [List.getElem?_eq_getElem h1, List.getElem?_eq_getElem h2]; rfl
end Go.Proofs.YtmhdambkchlilaaGreatDoor
namespace Go.Proofs.YtmhdambkchlilaaGreatDoor
open Go.RowKit
set_option linter.unusedVariables false

theorem fieldE_no {cs : List Cls} {vars : List Fld} {c : Ins} (h : isClsT cs (tyOf vars c.a) = false) : fieldE cs vars c = 8 := by unfold fieldE; rw [h]; rfl
theorem fieldE_un {cs : List Cls} {vars : List Fld} {c : Ins} (h : isClsT cs (tyOf vars c.a) = true) (h2 : (fieldS cs (tyOf vars c.a) c.name).2.2 = false) : fieldE cs vars c = 6 := by unfold fieldE; rw [h, h2]; rfl
end Go.Proofs.YtmhdambkchlilaaGreatDoor
