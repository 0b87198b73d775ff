/-
  Chapter 10: small functions of the laws.
-/
import Derived.Test.YtafincpkehlcfaaDoorHierP
import Derived.Test.YtafincpkehlcfaaDoorHierJ
namespace Go.Proofs.YtafincpkehlcfaaDoor
open Go.RowKit
set_option linter.unusedVariables false

theorem hasS_at {l : List ByteArray} {s : ByteArray} {k : Nat} (hk : k < l.length) (h : (l[k].toList == s.toList) = true) : hasS l s = true := by
  rw [hasS_iff, ← eqS_iff.1 h]; exact List.getElem_mem hk
theorem hasS_none {l : List ByteArray} {s : ByteArray} (h : ∀ i (hi : i < l.length), (l[i].toList == s.toList) = false) : hasS l s = false := by
  cases hq : hasS l s with
  | false => rfl
  | true =>
    rw [hasS_iff] at hq
    obtain ⟨i, hi, rfl⟩ := List.getElem_of_mem hq
    exact absurd (h i hi) (by rw [eqS_iff.2 rfl]; simp)
set_option maxHeartbeats 1000000 in
theorem lawHas_any (A : Option Addr) (c : Nat) (l : List ByteArray) (s : ByteArray) (w : World) (hl : l.length ≤ 8796093022208) (hs : Sl Lay.str w A l) :
    Calls Tryd.prog 13 #[.slice A l.length c, .string s] w fun e w' => e = .returned (.bool (hasS l s)) ∧ w = w' := by
  go_enter Tryd.func13, Tryd.ntmps13
  go_wp2_with fail
  go_loop [5] (fun i => ∃ k : Nat, k ≤ l.length ∧ i = .int .i64 k ∧ Hid (∀ i (hi : i < k) (hi2 : i < l.length), (l[i].toList == s.toList) = false)) (fun i => l.length - (intOf i).toNat)
  case atStart => exact ⟨0, Nat.zero_le _, rfl, fun i hi => by omega⟩
  case round =>
    obtain ⟨k, hk, rfl, HN⟩ := hrel
    by_cases hlt : k < l.length
    · obtain ⟨b, o, rfl, hb, d0⟩ := hs.str_at hlt
      cases hq : (l[k].toList == s.toList) with
      | true =>
        have HE := Lib.hid (hasS_at hlt hq)
        go_wp2_with fail
        go_ret
        exact ⟨by rw [HE.out]; rfl, rfl⟩
      | false =>
        have HE : Hid (∀ i (hi : i < k + 1) (hi2 : i < l.length), (l[i].toList == s.toList) = false) := fun i hi hi2 => by
          by_cases e : i = k
          · subst e; exact hq
          · exact HN.out i (by omega) hi2
        go_wp2_with fail
        go_round
        case rel => exact ⟨k + 1, by omega, by go_num, HE⟩
        case measure => simp [intOf]; omega
    · have HE := Lib.hid (hasS_none (l := l) (s := s) (fun i hi => HN.out i (by omega) hi))
      go_wp2_with fail
      go_ret
      exact ⟨by rw [HE.out]; rfl, rfl⟩
set_option maxHeartbeats 1000000 in
theorem refFind_any (A : Option Addr) (c : Nat) (cs : List Cls) (s : ByteArray) (w : World) (hl : cs.length ≤ 8796093022208) (hsl : Sl Lay.cls w A cs) :
    Calls Tryd.prog 17 #[.agg #[.slice A cs.length c], .string s] w fun e w' => e = .returned (.int .i64 (fnd cs s)) ∧ Below w.heap.size w w' := by
  have hb0 : Below w.heap.size w (w.alloc (.cells #[.slice A cs.length c] 24)) := (by repeat (first | assumption | exact Below.refl _ _ | apply bw_alloc | apply bw_drew | apply bw_drewN | apply bw_later | apply bw_step))
  have bx := Box.new w [.slice A cs.length c] 24
  have x0 := bx.cell 0 rfl
  have xl := bx.lt
  have hsl1 := hsl.mono hb0
  go_enter Tryd.func17, Tryd.ntmps17
  go_wp2_with fail
  generalize (w.alloc (.cells #[.slice A cs.length c] 24)) = W at *
  go_loop [5] (fun i => ∃ k : Nat, k ≤ cs.length ∧ i = .int .i64 k ∧ Hid (∀ i (hi : i < k) (hi2 : i < cs.length), isCls s cs[i] = false)) (fun i => cs.length - (intOf i).toNat)
  case atStart => exact ⟨0, Nat.zero_le _, rfl, fun i hi => by omega⟩
  case round =>
    obtain ⟨k, hk, rfl, HN⟩ := hrel
    by_cases hlt : k < cs.length
    · obtain ⟨b0, o, A2, c2, A3, c3, rfl, hb, d0, d1, d2, d3, hc2, hs2, hc3, hs3⟩ := hsl1.cls_at hlt
      cases hq : isCls s cs[k] with
      | true =>
        have HE : Hid (fnd cs s = k) := idxI_at hlt (fun i hi => HN.out i hi (by omega)) hq
        unfold isCls at hq
        go_wp2_with fail
        go_ret
        exact ⟨by rw [HE.out]; rfl, hb0⟩
      | false =>
        have HE : Hid (∀ i (hi : i < k + 1) (hi2 : i < cs.length), isCls s cs[i] = false) := fun i hi hi2 => by
          by_cases e : i = k
          · subst e; exact hq
          · exact HN.out i (by omega) hi2
        unfold isCls at hq
        go_wp2_with fail
        go_round
        case rel => exact ⟨k + 1, by omega, by go_num, HE⟩
        case measure => simp [intOf]; omega
    · have HE : Hid (fnd cs s = -1) := idxI_none (fun i hi => HN.out i (by omega) hi)
      go_wp2_with fail
      go_ret
      exact ⟨by rw [HE.out]; rfl, hb0⟩
end Go.Proofs.YtafincpkehlcfaaDoor
