/-
  Chapter 13: typer.instr: the error of the types of an instruction.
-/
import Derived.Test.YtmhdambkchlilaaGreatDoorJUl
namespace Go.Proofs.YtmhdambkchlilaaGreatDoor
open Go.RowKit
set_option linter.unusedVariables false

/-- The operands of an instruction exist. -/
structure RgOk (n : Nat) (x : Ins) : Prop where
  d : usesB x.op 100 = true → varB n x.dst = true ∨ (usesB x.op 42 = true ∧ x.dst = -1)
  a : usesB x.op 97 = true → varB n x.a = true ∨ (x.op = 13 ∧ x.a = -1)
  b : usesB x.op 98 = true → varB n x.b = true
  s : ∀ v ∈ x.args, varB n v = true
/-- What the types of an instruction lean on. -/
structure TyH (w : World) (cs : List Cls) (f : Fun) (x : Ins) (AH AV AI : Option Addr) (cH : Nat) : Prop where
  hl : cs.length ≤ 8796093022208
  hcc : cs.length ≤ cH
  hs : Sl Lay.cls w AH cs
  hok : StrOk cs
  hlk : LensOk cs
  hv : Sl Lay.fld w AV f.vars
  hvo : ∀ v ∈ f.vars, okStr v.typ
  ha : Sl Lay.int w AI x.args
  hla : x.args.length ≤ 17592186044416
  hg : RgOk f.vars.length x
  hxc : okStr x.cls
  hxr : okStr f.result
theorem dec_beq (a b : Int) : decide (a = b) = (a == b) := by cases h : a == b <;> simp_all
theorem RgOk.dst {n : Nat} {x : Ins} (h : RgOk n x) (h1 : usesB x.op 100 = true) (h2 : usesB x.op 42 = false) : varB n x.dst = true := by
  rcases h.d h1 with h | ⟨h, _⟩
  · exact h
  · rw [h2] at h; cases h
theorem RgOk.va {n : Nat} {x : Ins} (h : RgOk n x) (h1 : usesB x.op 97 = true) (h2 : x.op ≠ 13) : varB n x.a = true := by
  rcases h.a h1 with h | ⟨h, _⟩
  · exact h
  · exact absurd h h2
theorem sgAt_mem {cs : List Cls} {q : Int × Int} {g : Sg} (h : sgAt cs q = some g) : ∃ x ∈ cs, g ∈ x.methods := by
  unfold sgAt at h
  split at h
  · cases h
  · cases hx : cs[q.1.toNat]? with
    | none => rw [hx] at h; cases h
    | some c =>
      rw [hx] at h
      exact ⟨c, List.mem_of_getElem? hx, List.mem_of_getElem? h⟩
theorem statS_mem {cs : List Cls} {x : Ins} {g : Sg} (h : statS cs x = some g) : ∃ c ∈ cs, g ∈ c.methods := by
  unfold statS at h
  split at h
  · cases h
  · cases hx : cs[(fnd cs x.cls).toNat]? with
    | none => rw [hx] at h; cases h
    | some c =>
      rw [hx] at h
      simp only at h
      split at h
      · cases h
      · split at h
        · rename_i m hm
          split at h
          · injection h with h; subst h
            exact ⟨c, List.mem_of_getElem? hx, List.mem_of_getElem? hm⟩
          · cases h
        · cases h
end Go.Proofs.YtmhdambkchlilaaGreatDoor
