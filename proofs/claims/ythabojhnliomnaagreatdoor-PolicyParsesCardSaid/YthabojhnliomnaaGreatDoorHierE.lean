/-
  Chapter 10: Supers and IsSub; looking a method or a field up along a chain.
-/
import Derived.Test.YthabojhnliomnaaGreatDoorHierD
import Derived.Test.YthabojhnliomnaaGreatDoorSortS
namespace Go.Proofs.YthabojhnliomnaaGreatDoor
open Go.RowKit
set_option linter.unusedVariables false

/-! ### slices.Index and slices.Contains at strings -/
def isStr (s x : ByteArray) : Bool := s.toList == x.toList
def hasS (l : List ByteArray) (s : ByteArray) : Bool := decide (0 ≤ idxI (isStr s) l)
theorem hasS_iff {l : List ByteArray} {s : ByteArray} : hasS l s = true ↔ s ∈ l := by
  unfold hasS idxI
  rw [decide_eq_true_eq]
  cases h : l.findIdx? (isStr s) with
  | none =>
    rw [List.findIdx?_eq_none_iff] at h
    constructor
    · intro h1; simp at h1
    · intro h1
      have := h s h1
      unfold isStr at this
      rw [eqS_iff.2 rfl] at this
      cases this
  | some i =>
    obtain ⟨hi, h1, _⟩ := List.findIdx?_eq_some_iff_getElem.1 h
    constructor
    · intro _
      rw [eqS_iff.1 h1]
      exact List.getElem_mem hi
    · intro _; simp

set_option maxHeartbeats 1000000 in
theorem sIndex_any (A : Option Addr) (c : Nat) (l : List ByteArray) (s : ByteArray) (w : World) (hl : l.length ≤ 9223372036854775807) (hs : Sl Lay.str w A l) :
    Calls Tryz.prog 125 #[.slice A l.length c, .string s] w fun e w' => e = .returned (.int .i64 (idxI (isStr s) l)) ∧ w = w' := by
  go_enter Tryz.func125, Tryz.ntmps125
  go_wp2_with fail
  go_loop [5, 8] (fun j i => ∃ k : Nat, k ≤ l.length ∧ i = .int .i64 k ∧ Hid (∀ i (hi : i < k) (hi2 : i < l.length), isStr s l[i] = false)) (fun _ i => l.length - (intOf i).toNat)
  case atStart => exact ⟨0, Nat.zero_le _, rfl, fun i hi => by omega⟩
  case round =>
    obtain ⟨k, hk, rfl, HN⟩ := hrel
    by_cases hlt : k < l.length
    · obtain ⟨b, o, rfl, hb, d0⟩ := hs.str_at hlt
      cases hq : isStr s l[k] with
      | true =>
        have HE := Lib.hid (idxI_at hlt (fun i hi => HN.out i hi (by omega)) hq)
        unfold isStr at hq
        go_wp2_with fail
        go_ret
        exact ⟨by rw [HE.out]; rfl, rfl⟩
      | false =>
        have HE : Hid (∀ i (hi : i < k + 1) (hi2 : i < l.length), isStr s l[i] = false) := fun i hi hi2 => by
          by_cases e : i = k
          · subst e; exact hq
          · exact HN.out i (by omega) hi2
        unfold isStr at hq
        go_wp2_with fail
        go_round
        case rel => exact ⟨k + 1, by omega, by go_num, HE⟩
        case measure => simp [intOf]; omega
    · have HE := Lib.hid (idxI_none (p := isStr s) (l := l) (fun i hi => HN.out i (by omega) hi))
      go_wp2_with fail
      go_ret
      exact ⟨by rw [HE.out]; rfl, rfl⟩
theorem sContains_any (A : Option Addr) (c : Nat) (l : List ByteArray) (s : ByteArray) (w : World) (hl : l.length ≤ 9223372036854775807) (hs : Sl Lay.str w A l) :
    Calls Tryz.prog 74 #[.slice A l.length c, .string s] w fun e w' => e = .returned (.bool (hasS l s)) ∧ w = w' := by
  go_enter Tryz.func74, Tryz.ntmps74
  go_wp2_with fail
  refine (sIndex_any A c l s _ hl hs).mono ?_
  rintro e w1 ⟨rfl, rfl⟩
  go_wp2_with fail
  go_ret
  exact ⟨rfl, rfl⟩

/-! ### Supers, IsSub -/
def nmAt (cs : List Cls) (i : Int) : ByteArray := ((cs[i.toNat]?).map (·.name)).getD ByteArray.empty
theorem nmAt_nat {cs : List Cls} {i : Nat} (hi : i < cs.length) : nmAt cs i = cs[i].name := by unfold nmAt; rw [Int.toNat_natCast, List.getElem?_eq_getElem hi]; rfl
def supersL (cs : List Cls) (s : ByteArray) : List ByteArray := (chR cs (fnd cs s)).1.map (nmAt cs)
theorem supersL_len (cs : List Cls) (s : ByteArray) : (supersL cs s).length ≤ cs.length := by unfold supersL; rw [List.length_map]; exact chR_len (fnd_bd cs s).2

end Go.Proofs.YthabojhnliomnaaGreatDoor
