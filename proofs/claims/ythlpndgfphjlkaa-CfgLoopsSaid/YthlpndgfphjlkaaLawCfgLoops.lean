/-
  The statement about CfgLoops: for every input the law returns true, and each argument reads afterwards as it read before.
-/
import Derived.Test.YthlpndgfphjlkaaRows
import Derived.ProofKit
import Derived.OpenShut
import Derived.ShutString
import Derived.ChangeOld
import Derived.Below
import Derived.Test.YthlpndgfphjlkaaCfgS
namespace Go.Proofs.Ythlpndgfphjlkaa.cfgLoops
open Go.ChangeShapes Go.WideShapes Go.ChangeAt Go.RowKit
open Go.ChangeMaps (open_string shut_string)
set_option linter.unusedVariables false

theorem own : ownKnob Try.prog.godebug = none := by kernel_rfl
theorem laidOut : laidOutB Try.prog = true := by kernel_rfl

/-- An argument that is a struct. -/
theorem arg_agg {α : Type} {P : Program} {t : TypeId} {L : Lay α} {ok : α → Prop} (h : Opens P t L ok) {H : Type} {enc : TypeId × Value → H} {w : World} {spare : Nat → Bool} {held : Bool} {v : Value} {d : DataW H} {p : List MemPlace}
    (ht : DataW.Trod enc P w 0 spare held t v d p) : ∃ x, L.rep w x v.cells.toList ∧ ok x := by
  obtain ⟨fuel, hf⟩ := ht
  exact h H enc w spare held fuel _ _ hf

set_option maxRecDepth 100000 in
theorem lifted (os : Os) (started : os.Started) (H : Type) (enc : TypeId × Value → H) :
    ReturnsInHanded {} Try.checked os 4 .any (Rows.cfgLoopsSpec.pre6 enc Try.prog Try.f4 Rows.cfgLoopsRow.domain false) (Rows.cfgLoopsSpec.post enc Try.prog Try.f4 false true false false) := by
  refine returnsInHanded_of_change (C := Try.checked) own started (by kernel_rfl) Try.func4
    (ChangeSpec.witness6 (enc := enc) (C := Try.checked) false ⟨#[], #[.agg #[.string ByteArray.empty, .string ByteArray.empty, .bool false, .int .i64 0, .slice none 0 0, .string ByteArray.empty, .slice none 0 0]], []⟩ 8 (by kernel_rfl) (by kernel_rfl) (by kernel_rfl) (by kernel_rfl)) ?_
  intro W base args ds gs before hval0 hW hcnd _
  have hval : ∀ (j : Nat) t v, Try.f4.params[j]? = some t → args[j]? = some v → Value.okWide Try.prog W .any base t v := hval0
  have hW' := hW
  obtain ⟨p, q, hA0, hV, rfl, hfz, hnd⟩ := hW
  have hA : DataW.TrodAll enc Try.prog W 0 (fun _ => true) true Try.f4.params.toList args.toList ds p := hA0
  rw [Try.params4] at hA hval
  obtain ⟨v0, vs0, d0, ds0, p0, q0, hargs, rfl, rfl, h0, r0⟩ := trodAll_cons hA
  obtain ⟨rfl, rfl, rfl⟩ := trodAll_nil r0
  obtain rfl : args = #[v0] := by cases args; simp_all
  obtain ⟨rfl, rfl⟩ := trodVars_none hV
  obtain ⟨cs0, rfl, hsz0⟩ := okWide_struct Try.underlying25 (hval 0 25 v0 rfl rfl)
  have k0 := h0
  have lt0 := trod_block h0
  obtain ⟨x0, hr0, ho0⟩ := arg_agg (opensFun) h0
  obtain ⟨A4, c4, A6, c6, he, hc4, hs4, hc6, hs6⟩ := hr0
  have he2 : cs0.toList = [.string x0.cls, .string x0.name, .bool x0.static, .int .i64 x0.nparams, .slice A4 x0.vars.length c4, .string x0.result, .slice A6 x0.code.length c6] := he
  obtain rfl : cs0 = #[.string x0.cls, .string x0.name, .bool x0.static, .int .i64 x0.nparams, .slice A4 x0.vars.length c4, .string x0.result, .slice A6 x0.code.length c6] := Array.toList_inj.1 (by simpa using he2)
  clear hA0 hval0
  refine (walk_CfgLoops x0.cls x0.name x0.static x0.nparams A4 x0.vars.length c4 x0.result A6 c6 x0.code W ho0.2.2.2.2.2.2.1 hs6).mono fun e W' ⟨he, bel⟩ => ?_
  subst he
  exact ⟨_, rfl, _, _, _, [], _, [], hW', trodAll_mk1 (shut_bool Try.underlying4 _), (trodAll_cons_mk (Below.trod laidOut (by kernel_rfl) (of_decide_eq_true (by kernel_rfl)) k0 bel lt0) trodAll_mk0), rfl, bel.frame _, fun h => by cases h⟩

theorem over : Rows.cfgLoopsRow.holds Try.pinned (OpenSpec.ofChange Rows.cfgLoopsSpec) :=
  OpenClaim.holds_of_wide 4 Try.f4 rfl rfl rfl rfl rfl rfl rfl ⟨rfl, rfl, rfl, rfl, rfl⟩ rfl rfl rfl rfl rfl (by kernel_rfl) Try.func4 (by kernel_rfl)
    (of_decide_eq_true (by kernel_rfl)) (by unfold Func.isWrapper; first | (rw [if_pos (by decide +kernel)]; kernel_rfl) | (rw [if_neg (by decide +kernel)]; exact ⟨rfl, rfl⟩))
    (fun os started H enc _ => lifted os started H enc)

theorem proved : Rows.CfgLoopsSaid := over
#print axioms proved
end Go.Proofs.Ythlpndgfphjlkaa.cfgLoops
