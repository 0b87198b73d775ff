/-
  Chapter 10: dispatch in a valid hierarchy (plain).
-/
import Derived.Test.YtafincpkehlcfaaDoorHierW
namespace Go.Proofs.YtafincpkehlcfaaDoor
open Go.RowKit
set_option linter.unusedVariables false

def inS (cs : List Cls) (m s : ByteArray) : ByteArray := nearS cs m (up cs (fnd cs s))
section
variable {cs : List Cls} (hv : Valid cs)
include hv
theorem Valid.subs_at {a : ByteArray} {k : Nat} (hk : k < (subsL cs a).length) : ∃ x : Int, 0 ≤ x ∧ x < (cs.length : Int) ∧ x ∈ subsI cs a ∧ (subsL cs a)[k] = nmAt cs x ∧ fnd cs (subsL cs a)[k] = x := by
  have h := List.getElem_mem hk
  have h2 := h
  unfold subsL at h2
  rw [sortS_mem, List.mem_map] at h2
  obtain ⟨x, hx, he⟩ := h2
  have hb := (subsI_range cs a).bd x hx
  refine ⟨x, hb.1, hb.2, hx, he.symm, ?_⟩
  rw [show (subsL cs a)[k] = nmAt cs x from he.symm]
  exact hv.fnd_nm hb.1 hb.2
structure Disp (cs : List Cls) (T : List ByteArray) (m s : ByteArray) (j q : Nat) (hj : j < cs.length) (hq : q < cs[j].methods.length) : Prop where
  look : lookS cs s m = ((j : Int), (q : Int))
  near : inS cs m s = cs[j].name
  full : cs[j].name.toList.isEmpty = false
  name : cs[j].methods[q].name = m
  has : hasS T cs[j].name = true
theorem Valid.disp {a : ByteArray} (m : ByteArray) {k : Nat} (hk : k < (subsL cs a).length) :
    (lookS cs (subsL cs a)[k] m = (-1, -1) ∧ inS cs m (subsL cs a)[k] = ByteArray.empty) ∨ ∃ (j q : Nat) (hj : j < cs.length) (hq : q < cs[j].methods.length), Disp cs (targetsL cs a m) m (subsL cs a)[k] j q hj hq := by
  obtain ⟨x, hx0, hxl, hxm, hsx, hfx⟩ := hv.subs_at hk
  have hlk : lookS cs (subsL cs a)[k] m = lookL cs m (up cs x) := by unfold lookS lookI up; rw [hfx]
  have hin : inS cs m (subsL cs a)[k] = nearS cs m (up cs x) := by unfold inS; rw [hfx]
  rcases lookL_bd (cs := cs) (m := m) (chR_bd (cs := cs) hxl).1 with h | ⟨j, q, hj, hq, hyes, hmem, hidx⟩
  · left
    have h' : lookL cs m (up cs x) = (-1, -1) := h
    refine ⟨by rw [hlk, h'], ?_⟩
    rw [hin]; unfold nearS; rw [h', if_neg (by decide)]
  · right
    have h' : lookL cs m (up cs x) = ((j : Int), (q : Int)) := hyes
    refine ⟨j, q, hj, hq, by rw [hlk, h'], ?_, (hv.cls j hj).full, ?_, ?_⟩
    · rw [hin]; unfold nearS; rw [h', if_pos (by show (0 : Int) ≤ (j : Int); omega)]; exact nmAt_nat hj
    · obtain ⟨k2, hk2, e, h⟩ := (show ∃ k2, ∃ hk2 : k2 < cs[j].methods.length, idxI (isSg m) cs[j].methods = k2 ∧ isSg m cs[j].methods[k2] = true from by
        unfold idxI at hidx ⊢
        cases hq2 : cs[j].methods.findIdx? (isSg m) with
        | none => rw [hq2] at hidx; simp at hidx
        | some k3 =>
          obtain ⟨hk3, h1, _⟩ := List.findIdx?_eq_some_iff_getElem.1 hq2
          exact ⟨k3, hk3, rfl, h1⟩)
      obtain rfl : q = k2 := by omega
      exact eqS_iff.1 h
    · rw [hasS_iff]
      unfold targetsL
      rw [(ascS_spec _).2, List.mem_flatMap]
      refine ⟨x, hxm, ?_⟩
      unfold tgtOf
      have h2 : lookI cs m x = ((j : Int), (q : Int)) := h'
      rw [h2, if_pos (by show (0 : Int) ≤ (j : Int); omega), ← nmAt_nat hj]
      simp
theorem Valid.used {a : ByteArray} (m : ByteArray) {k : Nat} (hk : k < (targetsL cs a m).length) : hasS ((subsL cs a).map (inS cs m)) (targetsL cs a m)[k] = true := by
  have h := List.getElem_mem hk
  have h2 := h
  unfold targetsL at h2
  rw [(ascS_spec _).2, List.mem_flatMap] at h2
  obtain ⟨x, hx, he⟩ := h2
  have hb := (subsI_range cs a).bd x hx
  rw [hasS_iff, List.mem_map]
  refine ⟨nmAt cs x, ?_, ?_⟩
  · unfold subsL; rw [sortS_mem, List.mem_map]; exact ⟨x, hx, rfl⟩
  · unfold inS nearS
    rw [hv.fnd_nm hb.1 hb.2]
    unfold tgtOf at he
    have hl : lookL cs m (up cs x) = lookI cs m x := rfl
    rw [hl]
    by_cases hq : 0 ≤ (lookI cs m x).1
    · rw [if_pos hq] at he ⊢
      simp at he
      exact he.symm
    · rw [if_neg hq] at he; simp at he
end
theorem targets_asc (cs : List Cls) (a m : ByteArray) {k : Nat} (hk : k + 1 < (targetsL cs a m).length) : toL (targetsL cs a m)[k] < toL (targetsL cs a m)[k + 1] := by
  have h := (ascS_spec ((subsI cs a).flatMap (tgtOf cs m))).1
  exact (List.pairwise_iff_getElem.1 h) k (k + 1) (Nat.lt_of_succ_lt hk) hk (Nat.lt_succ_self k)
end Go.Proofs.YtafincpkehlcfaaDoor
