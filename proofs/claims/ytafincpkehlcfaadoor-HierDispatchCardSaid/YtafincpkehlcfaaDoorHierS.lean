/-
  Chapter 10: an argument that is a hierarchy.
-/
import Derived.Test.YtafincpkehlcfaaDoorHierTyW
import Derived.Test.YtafincpkehlcfaaDoorHierL
namespace Go.Proofs.YtafincpkehlcfaaDoor
open Go.RowKit
set_option linter.unusedVariables false

theorem bytesCls : Tryd.prog.bytesOf 32 = 80 := by kernel_rfl
theorem bytesFld : Tryd.prog.bytesOf 68 = 32 := by kernel_rfl
theorem bytesSg : Tryd.prog.bytesOf 37 = 64 := by kernel_rfl
theorem bytesStr : Tryd.prog.bytesOf 9 = 16 := by kernel_rfl
/-- What the walks ask of a hierarchy. -/
structure HiArg (W : World) (cs : Array Value) (l : List Cls) : Prop where
  ex : ∃ A c, cs = #[.slice A l.length c] ∧ l.length ≤ c ∧ Sl Lay.cls W A l
  len : l.length ≤ 8796093022208
  str : Hid (StrOk l)
  lens : Hid (LensOk l)
theorem hiArg {W : World} {cs : Array Value} {x : Hi} (hr : Lay.hi.rep W x (Value.agg cs).cells.toList) (ho : x.OkW) : HiArg W cs x.classes := by
  obtain ⟨A, c, he, hc, hs⟩ := hr
  have hcs : cs = #[.slice A x.classes.length c] := by
    have : cs.toList = [.slice A x.classes.length c] := he
    exact Array.toList_inj.1 (by simpa using this)
  obtain ⟨h1, h2, h3⟩ := ho
  rw [bytesCls] at h1
  unfold reachBytes at h1
  have hx : ∀ y ∈ x.classes, (okStr y.name ∧ okStr y.super) ∧ ((∀ f ∈ y.fields, okStr f.name ∧ okStr f.typ) ∧ y.fields.length ≤ 8796093022208) ∧ (y.methods.length ≤ 8796093022208) ∧ ∀ m ∈ y.methods, (okStr m.name ∧ okStr m.result ∧ ∀ p ∈ m.params, okStr p) ∧ m.params.length ≤ 8796093022208 := by
    intro y hy
    obtain ⟨k1, k2, ⟨k3, k4, k5⟩, k6, k7, k8⟩ := h3 y hy
    rw [bytesFld] at k3
    rw [bytesSg] at k6
    unfold reachBytes at k3 k6
    refine ⟨⟨k1, k2⟩, ⟨fun f hf => k5 f hf, by omega⟩, by omega, fun m hm => ?_⟩
    obtain ⟨m1, _, ⟨m2, m3, m4⟩, m5⟩ := k8 m hm
    rw [bytesStr] at m2
    unfold reachBytes at m2
    exact ⟨⟨m1, m5, fun p hp => m4 p hp⟩, by omega⟩
  refine ⟨⟨A, c, hcs, hc, hs⟩, by omega, fun y hy => ?_, fun y hy => ?_⟩
  · obtain ⟨k1, k2, k3, k4⟩ := hx y hy
    exact ⟨k1, k2.1, fun m hm => (k4 m hm).1⟩
  · obtain ⟨k1, k2, k3, k4⟩ := hx y hy
    exact ⟨k2.2, k3, fun m hm => (k4 m hm).2⟩
end Go.Proofs.YtafincpkehlcfaaDoor
