/-
  Chapter 10: an argument that is a source.
-/
import Derived.Test.YtafincpkehlcfaaOfF
import Derived.Test.YtafincpkehlcfaaSrcTyW
namespace Go.Proofs.Ytafincpkehlcfaa
open Go.RowKit
set_option linter.unusedVariables false

theorem bytesSCls : Try.prog.bytesOf 44 = 80 := by kernel_rfl
theorem bytesMth : Try.prog.bytesOf 48 = 88 := by kernel_rfl
theorem bytesFld : Try.prog.bytesOf 37 = 32 := by kernel_rfl
theorem srcOk_of {x : Src} (h : x.OkW) : SrcOk x.classes := by
  obtain ⟨h1, h2, h3⟩ := h
  rw [bytesSCls] at h1
  unfold reachBytes at h1
  refine ⟨by omega, fun c hc => ?_⟩
  obtain ⟨k1, k2, ⟨k3, k4, k5⟩, k6, k7, k8⟩ := h3 c hc
  rw [bytesFld] at k3
  rw [bytesMth] at k6
  unfold reachBytes at k3 k6
  refine ⟨by omega, by omega, fun m hm => ?_⟩
  obtain ⟨m1, m2, ⟨m3, m4, m5⟩, m6, m7⟩ := k8 m hm
  rw [bytesFld] at m3
  unfold reachBytes at m3
  unfold MthOk
  omega
structure SrcArg (W : World) (cs : Array Value) (l : List SCls) : Prop where
  ex : ∃ A c, cs = #[.slice A l.length c] ∧ Sl Lay.sCls W A l
  ok : Hid (SrcOk l)
theorem srcArg {W : World} {cs : Array Value} {x : Src} (hr : Lay.src.rep W x (Value.agg cs).cells.toList) (ho : x.OkW) : SrcArg W cs x.classes := by
  obtain ⟨A, c, he, hc, hs⟩ := hr
  have hcs : cs = #[.slice A x.classes.length c] := by
    have : cs.toList = [.slice A x.classes.length c] := he
    exact Array.toList_inj.1 (by simpa using this)
  exact ⟨⟨A, c, hcs, hs⟩, srcOk_of ho⟩
end Go.Proofs.Ytafincpkehlcfaa
