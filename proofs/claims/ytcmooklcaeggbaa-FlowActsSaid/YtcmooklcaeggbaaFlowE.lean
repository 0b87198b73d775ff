/-
  Contracts of chapter 29: Identity, and the small functions of the reference.
-/
import Derived.Test.YtcmooklcaeggbaaFlowB
import Derived.Test.YtcmooklcaeggbaaBitsC
namespace Go.Proofs.Ytcmooklcaeggbaa
open Go.RowKit
set_option linter.unusedVariables false

theorem pairTy : ElemTy Try.prog 24 46 2 16 (.agg #[.int .i64 0, .int .i64 0]) := ⟨Try.underlying24, by kernel_rfl, rfl, by omega⟩

/-- A value that reads as a list of pairs. -/
def FlowV (w : World) (v : Value) (l : List (Int × Int)) : Prop := ∃ A c, v = .slice A l.length c ∧ l.length ≤ c ∧ Sl Lay.int2 w A l
theorem FlowV.of_own {base : Nat} {e : TypeId} {w : World} {v : Value} {l : List (Int × Int)} (h : Own cellsInt2 2 base e w v l) : FlowV w v l := Own.sl (L := Lay.int2) h rfl fun _ => rfl
theorem FlowV.mono {w w' : World} {v : Value} {l : List (Int × Int)} (h : FlowV w v l) (hb : Below w.heap.size w w') : FlowV w' v l := by
  obtain ⟨A, c, e, hc, hs⟩ := h
  exact ⟨A, c, e, hc, hs.mono hb⟩
theorem FlowV.nil {w : World} : FlowV w (.slice none 0 0) [] := ⟨none, 0, rfl, Nat.le_refl _, Sl.nil⟩

/-- Whether all elements are facts other than Zero. -/
def properB (l : List Int) (n : Int) : Bool := l.all fun d => decide (1 ≤ d) && decide (d < n)
theorem properB_no {l : List Int} {n : Int} {k : Nat} (hk : k < l.length) (h : l[k] < 1 ∨ n ≤ l[k]) : properB l n = false := by
  rw [Bool.eq_false_iff]
  intro h1
  have h2 := List.all_eq_true.1 h1 l[k] (List.getElem_mem hk)
  simp at h2
  omega
theorem properB_yes {l : List Int} {n : Int} {k : Nat} (hk : ¬ k < l.length) (h : ∀ i (hi : i < l.length), i < k → 1 ≤ l[i] ∧ l[i] < n) : properB l n = true := by
  unfold properB
  rw [List.all_eq_true]
  intro x hx
  obtain ⟨i, hi, rfl⟩ := List.getElem_of_mem hx
  have := h i hi (by omega)
  simp [this]
theorem properB_mem {l : List Int} {n : Int} (h : properB l n = true) : ∀ x ∈ l, 1 ≤ x ∧ x < n := fun x hx => by
  have h2 := List.all_eq_true.1 h x hx
  simpa using h2
theorem lt_succ_all {l : List Int} {n : Int} {k : Nat} (hk : k < l.length) (h : ∀ i (hi : i < l.length), i < k → 1 ≤ l[i] ∧ l[i] < n) (h2 : 1 ≤ l[k] ∧ l[k] < n) : ∀ i (hi : i < l.length), i < k + 1 → 1 ≤ l[i] ∧ l[i] < n := fun i hi hik => by
  by_cases e : i = k
  · subst e; exact h2
  · exact h i hi (by omega)

set_option maxHeartbeats 400000 in
theorem refProper_any (A : Option Addr) (c : Nat) (l : List Int) (n : Int) (w : World) (hl : l.length ≤ 9223372036854775807) (hs : Sl Lay.int w A l) :
    Calls Try.prog 29 #[.slice A l.length c, .int .i64 n] w fun e w' => e = .returned (.bool (properB l n)) ∧ w = w' := by
  go_enter Try.func29, Try.ntmps29
  go_wp2
  go_loop [5] (fun i => ∃ k : Nat, k ≤ l.length ∧ i = .int .i64 k ∧ Hid (∀ i (hi : i < l.length), i < k → 1 ≤ l[i] ∧ l[i] < n)) (fun i => l.length - (intOf i).toNat)
  case atStart => exact ⟨0, Nat.zero_le _, rfl, fun i hi h => by omega⟩
  case round =>
    obtain ⟨k, hk, rfl, HG⟩ := hrel
    by_cases hlt : k < l.length
    · obtain ⟨b, o, rfl, hb, c0⟩ := hs.int_at hlt
      by_cases h1 : l[k] < 1
      · have HP := Lib.hid (properB_no (n := n) hlt (Or.inl h1))
        go_wp2
        go_ret
        exact ⟨by rw [HP.out]; rfl, rfl⟩
      · by_cases h2 : n ≤ l[k]
        · have HP := Lib.hid (properB_no hlt (Or.inr h2))
          go_wp2
          go_ret
          exact ⟨by rw [HP.out]; rfl, rfl⟩
        · have h3 : l[k] < n := by omega
          go_wp2
          go_round
          case rel => exact ⟨k + 1, by omega, by go_num, lt_succ_all hlt HG.out ⟨by omega, h3⟩⟩
          case measure => simp [intOf]; omega
    · have HP := Lib.hid (properB_yes hlt HG.out)
      go_wp2
      go_ret
      exact ⟨by rw [HP.out]; rfl, rfl⟩

/-- Membership, as a Bool of its own. -/
def hasB (l : List Int) (d : Int) : Bool := decide (d ∈ l)
theorem hasB_yes {l : List Int} {d : Int} {k : Nat} (hk : k < l.length) (h : l[k] = d) : hasB l d = true := decide_eq_true (h ▸ List.getElem_mem hk)
theorem hasB_no {l : List Int} {d : Int} {k : Nat} (hk : ¬ k < l.length) (h : ∀ i (hi : i < l.length), i < k → l[i] ≠ d) : hasB l d = false := decide_eq_false fun hm => by
  obtain ⟨i, hi, e⟩ := List.getElem_of_mem hm
  exact h i hi (by omega) e

set_option maxHeartbeats 400000 in
theorem refHas_any (A : Option Addr) (c : Nat) (l : List Int) (d : Int) (w : World) (hl : l.length ≤ 9223372036854775807) (hs : Sl Lay.int w A l) :
    Calls Try.prog 30 #[.slice A l.length c, .int .i64 d] w fun e w' => e = .returned (.bool (hasB l d)) ∧ w = w' := by
  go_enter Try.func30, Try.ntmps30
  go_wp2
  go_loop [5] (fun i => ∃ k : Nat, k ≤ l.length ∧ i = .int .i64 k ∧ Hid (∀ i (hi : i < l.length), i < k → l[i] ≠ d)) (fun i => l.length - (intOf i).toNat)
  case atStart => exact ⟨0, Nat.zero_le _, rfl, fun i hi h => by omega⟩
  case round =>
    obtain ⟨k, hk, rfl, HG⟩ := hrel
    by_cases hlt : k < l.length
    · obtain ⟨b, o, rfl, hb, c0⟩ := hs.int_at hlt
      by_cases h1 : l[k] = d
      · have HP := Lib.hid (hasB_yes hlt h1)
        have h1' : (l[k] == d) = true := by simp [h1]
        clear h1
        go_wp2
        go_ret
        exact ⟨by rw [HP.out]; rfl, rfl⟩
      · have h1' : (l[k] == d) = false := by simpa using h1
        have HE := Lib.hid h1
        clear h1
        go_wp2
        go_round
        case rel => exact ⟨k + 1, by omega, by go_num, fun i hi hik => by
          by_cases e : i = k
          · subst e; exact HE.out
          · exact HG.out i hi (by omega)⟩
        case measure => simp [intOf]; omega
    · have HP := Lib.hid (hasB_no hlt HG.out)
      go_wp2
      go_ret
      exact ⟨by rw [HP.out]; rfl, rfl⟩

/-! ### Identity -/
def idTo (m : Nat) : List (Int × Int) := (List.range m).map fun (d : Nat) => ((d : Int), (d : Int))
theorem idTo_succ (m : Nat) : idTo (m + 1) = idTo m ++ [((m : Int), (m : Int))] := by unfold idTo; rw [List.range_succ, List.map_append]; rfl
theorem idTo_len (m : Nat) : (idTo m).length = m := by simp [idTo]
def IdR (n : Int) (e : Ending) (w' : World) : Prop :=
  ((n < 1 ∨ 1024 < n) → e = .returned (.tuple #[.slice none 0 0, .int .i64 4])) ∧ (¬ (n < 1 ∨ 1024 < n) → ∃ v, e = .returned (.tuple #[v, .int .i64 0]) ∧ FlowV w' v (idTo n.toNat))
theorem IdR.bad {n : Int} {w' : World} (h : n < 1 ∨ 1024 < n) : IdR n (.returned (.tuple #[.slice none 0 0, .int .i64 4])) w' := ⟨fun _ => rfl, fun h2 => absurd h h2⟩
theorem IdR.good {n : Int} {w' : World} {v : Value} (h1 : 1 ≤ n) (h2 : n ≤ 1024) (hv : FlowV w' v (idTo n.toNat)) : IdR n (.returned (.tuple #[v, .int .i64 0])) w' := ⟨fun h => by omega, fun _ => ⟨v, rfl, hv⟩⟩

set_option maxHeartbeats 1000000 in
theorem refIdentity_any (n : Int) (w : World) :
    Calls Try.prog 12 #[.int .i64 n] w fun e w' => IdR n e w' ∧ Below w.heap.size w w' := by
  by_cases h1 : n < 1
  · go_enter Try.func12, Try.ntmps12
    go_wp2
    go_ret2
    exact ⟨IdR.bad (Or.inl h1), (by repeat (first | assumption | exact Below.refl _ _ | apply bw_alloc | apply bw_drew | apply bw_drewN | apply bw_later | apply bw_step))⟩
  by_cases h2 : 1024 < n
  · go_enter Try.func12, Try.ntmps12
    go_wp2
    go_ret2
    exact ⟨IdR.bad (Or.inr h2), (by repeat (first | assumption | exact Below.refl _ _ | apply bw_alloc | apply bw_drew | apply bw_drewN | apply bw_later | apply bw_step))⟩
  have h1' : 1 ≤ n := by omega
  have h2' : n ≤ 1024 := by omega
  go_enter Try.func12, Try.ntmps12
  go_wp2
  go_loopw [4, 5] (fun v i wr => ∃ k : Nat, k ≤ n.toNat ∧ i = .int .i64 k ∧ Own cellsInt2 2 w.heap.size 46 wr v (idTo k) ∧ Below w.heap.size w wr) (fun _ i _ => n.toNat - (intOf i).toNat)
  case atStart => exact ⟨0, Nat.zero_le _, rfl, Own.nil, Below.refl _ _⟩
  case round =>
    obtain ⟨k, hk, rfl, hown, hbw⟩ := hrel
    have hlen := idTo_len k
    have HLEN := Lib.hid hlen
    clear hlen
    by_cases hlt : (k : Int) < n
    · have HS := Lib.hid (idTo_succ k)
      go_wp2_with (at_builtin; refine wpList_push pairTy cellsInt2_ok rfl (.tmp 17) (.tmp 21) rfl w.heap.size _ (idTo k) rfl (hown.alloc _) ((k : Int), (k : Int)) _ _ rfl (cells_two_new _ _ _ _) (by rw [HLEN.out]; unfold maxLen; omega) (by rw [HLEN.out]; omega) (by have := hbw.size; simp; omega) ?_; intro v1 w1 hown1 hb1)
      go_roundw
      case rel => exact ⟨k + 1, by omega, by go_num, by rw [HS.out]; exact hown1, (bw_alloc hbw).trans hb1⟩
      case measure => simp [intOf]; omega
    · go_wp2
      go_ret2
      exact ⟨IdR.good h1' h2' (by rw [show n.toNat = k by omega]; exact FlowV.of_own hown), hbw⟩

end Go.Proofs.Ytcmooklcaeggbaa
