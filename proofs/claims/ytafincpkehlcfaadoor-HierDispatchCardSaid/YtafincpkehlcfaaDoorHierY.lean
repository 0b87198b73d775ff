/-
  Chapter 10: the walk of the law HierDispatch.
-/
import Derived.Test.YtafincpkehlcfaaDoorHierX
import Derived.Test.YtafincpkehlcfaaDoorRegZ
namespace Go.Proofs.YtafincpkehlcfaaDoor
open Go.RowKit
set_option linter.unusedVariables false

structure SubsOk (cs : List Cls) (m : ByteArray) (S T : List ByteArray) : Prop where
  disp : ∀ k (hk : k < S.length), (lookS cs S[k] m = (-1, -1) ∧ inS cs m S[k] = ByteArray.empty) ∨ ∃ (j q : Nat) (hj : j < cs.length) (hq : q < cs[j].methods.length), Disp cs T m S[k] j q hj hq
  ok : ∀ k (hk : k < S.length), okStr S[k]
  used : ∀ k (hk : k < T.length), hasS (S.map (inS cs m)) T[k] = true
  asc : ∀ k (hk : k + 1 < T.length), Op.bytesLess T[k].toList T[k + 1].toList = true
theorem Valid.subsOk {cs : List Cls} (hv : Valid cs) (hok : NamesOk cs) (a m : ByteArray) : SubsOk cs m (subsL cs a) (targetsL cs a m) := by
  refine ⟨fun k hk => hv.disp m hk, fun k hk => ?_, fun k hk => hv.used m hk, fun k hk => ?_⟩
  · obtain ⟨x, h0, h1, _, he, _⟩ := hv.subs_at hk
    obtain ⟨n, rfl⟩ : ∃ n : Nat, x = n := ⟨x.toNat, by omega⟩
    rw [he, nmAt_nat (by omega)]
    exact (hok _ (List.getElem_mem _)).1
  · rw [bytesLess_eq]
    have := targets_asc cs a m hk
    unfold toL at this
    simpa [ByteArray.toList_eq] using this
end Go.Proofs.YtafincpkehlcfaaDoor
