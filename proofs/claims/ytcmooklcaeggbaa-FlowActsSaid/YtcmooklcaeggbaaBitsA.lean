/-
  Contracts of package bits: a set of small numbers as a list of words.
-/
import Derived.Test.YtcmooklcaeggbaaProg
import Derived.Test.YtcmooklcaeggbaaLib
namespace Go.Proofs.Ytcmooklcaeggbaa
open Go.RowKit
set_option linter.unusedVariables false

def bitAt (ws : List Nat) (x : Nat) : Bool := (ws.getD (x / 64) 0).testBit (x % 64)
def wordsOk (ws : List Nat) : Prop := ∀ i, ws.getD i 0 < 18446744073709551616
theorem bit_test (W j : Nat) (hW : W < 18446744073709551616) : (bits .and .u64 ((W : Int) / 2 ^ j) 1 == 1) = W.testBit j := by
  have e : ((W : Int) / 2 ^ j) = ((W / 2 ^ j : Nat) : Int) := by
    rw [Int.natCast_ediv, Int.natCast_pow]; rfl
  have h1 : W / 2 ^ j < 18446744073709551616 := Nat.lt_of_le_of_lt (Nat.div_le_self _ _) hW
  rw [e, show (1 : Int) = ((1 : Nat) : Int) from rfl, u64_and_nat _ _ h1 (by omega), Nat.and_one_is_mod, Nat.testBit_eq_decide_div_mod_eq, Bool.eq_iff_iff]
  simp only [beq_iff_eq, decide_eq_true_eq]
  omega
theorem bitAt_lt {ws : List Nat} {x : Nat} (h : x / 64 < ws.length) : bitAt ws x = ws[x / 64].testBit (x % 64) := by
  unfold bitAt; rw [List.getD_eq_getElem?_getD, List.getElem?_eq_getElem h]; rfl
theorem bitAt_ge {ws : List Nat} {x : Nat} (h : ¬ x / 64 < ws.length) : bitAt ws x = false := by
  unfold bitAt; rw [List.getD_eq_getElem?_getD, List.getElem?_eq_none (by omega)]; simp
theorem wordsOk_at {ws : List Nat} (h : wordsOk ws) {i : Nat} (hi : i < ws.length) : ws[i] < 18446744073709551616 := by
  have := h i
  rwa [List.getD_eq_getElem?_getD, List.getElem?_eq_getElem hi] at this

set_option maxHeartbeats 400000 in
theorem bitsHas_any (A : Option Addr) (c : Nat) (ws : List Nat) (x : Nat) (w : World) (hx2 : x < 65536) (hl : ws.length ≤ 1024) (hw : wordsOk ws) (hs : Sl Lay.word w A ws) :
    Calls Try.prog 28 #[.slice A ws.length c, .int .i64 x] w fun e w' => e = .returned (.bool (bitAt ws x)) ∧ w = w' := by
  by_cases h : x / 64 < ws.length
  · obtain ⟨b, o, rfl, hb, c0⟩ := hs.word_at h
    have h1 : (x : Int) / 64 < ws.length := by omega
    have HB := Lib.hid (bitAt_lt h)
    have HT := Lib.hid (bit_test ws[x / 64] (x % 64) (wordsOk_at hw h))
    go_enter Try.func28, Try.ntmps28
    go_wp2
    go_ret
    exact ⟨by rw [HB.out, ← HT.out]; rfl, rfl⟩
  · have h1 : ¬ (x : Int) / 64 < ws.length := by omega
    have HB := Lib.hid (bitAt_ge h)
    clear h
    go_enter Try.func28, Try.ntmps28
    go_wp2
    go_ret
    exact ⟨by rw [HB.out]; rfl, rfl⟩


/-! ### List -/
def bitsTo (ws : List Nat) (m : Nat) : List Int := ((List.range m).filter (bitAt ws)).map fun (x : Nat) => (x : Int)
theorem bitsTo_zero (ws : List Nat) : bitsTo ws 0 = [] := rfl
theorem bitsTo_yes {ws : List Nat} {m : Nat} (h : bitAt ws m = true) : bitsTo ws (m + 1) = bitsTo ws m ++ [(m : Int)] := by
  unfold bitsTo; rw [List.range_succ, List.filter_append, List.map_append]; simp [h]
theorem bitsTo_no {ws : List Nat} {m : Nat} (h : bitAt ws m = false) : bitsTo ws (m + 1) = bitsTo ws m := by
  unfold bitsTo; rw [List.range_succ, List.filter_append, List.map_append]; simp [h]
theorem bitsTo_len (ws : List Nat) (m : Nat) : (bitsTo ws m).length ≤ m := by
  unfold bitsTo; rw [List.length_map]; exact Nat.le_trans (List.length_filter_le _ _) (by simp)
theorem bitsTo_skip {ws : List Nat} {i : Nat} (hi : i < ws.length) (h : ws[i] = 0) : bitsTo ws ((i + 1) * 64) = bitsTo ws (i * 64) := by
  have : ∀ j, j ≤ 64 → bitsTo ws (i * 64 + j) = bitsTo ws (i * 64) := by
    intro j
    induction j with
    | zero => intro _; rfl
    | succ j ih =>
      intro hj
      rw [show i * 64 + (j + 1) = (i * 64 + j) + 1 by omega, bitsTo_no, ih (by omega)]
      rw [bitAt_lt (by omega)]
      have e : (i * 64 + j) / 64 = i := by omega
      simp only [e, h]
      simp
  have h2 := this 64 (Nat.le_refl _)
  rwa [show i * 64 + 64 = (i + 1) * 64 by omega] at h2
theorem bitAt_word {ws : List Nat} {i j : Nat} (hi : i < ws.length) (hj : j < 64) : bitAt ws (i * 64 + j) = ws[i].testBit j := by
  rw [bitAt_lt (by omega)]
  have e : (i * 64 + j) / 64 = i := by omega
  have e2 : (i * 64 + j) % 64 = j := by omega
  simp only [e, e2]

theorem intTy : ElemTy Try.prog 22 3 1 8 (.int .i64 0) := ⟨Try.underlying22, by kernel_rfl, rfl, by omega⟩

set_option maxHeartbeats 1000000 in
theorem bitsList_any (A : Option Addr) (c : Nat) (ws : List Nat) (w : World) (hl : ws.length ≤ 1024) (hw : wordsOk ws) (hs : Sl Lay.word w A ws) :
    Calls Try.prog 27 #[.slice A ws.length c] w fun e w' => (∃ v, e = .returned v ∧ Own cellsInt 1 w.heap.size 3 w' v (bitsTo ws (ws.length * 64))) ∧ Below w.heap.size w w' := by
  go_enter Try.func27, Try.ntmps27
  go_wp2
  go_loopw [3, 9] (fun v i wr => ∃ k : Nat, k ≤ ws.length ∧ i = .int .i64 k ∧ Own cellsInt 1 w.heap.size 3 wr v (bitsTo ws (k * 64)) ∧ Below w.heap.size w wr) (fun _ i _ => ws.length - (intOf i).toNat)
  case atStart => exact ⟨0, Nat.zero_le _, rfl, Own.nil, Below.refl _ _⟩
  case round =>
    obtain ⟨k, hk, rfl, hown, hbw⟩ := hrel
    by_cases hlt : k < ws.length
    · obtain ⟨b, o, rfl, hb, c0⟩ := (hs.mono hbw).word_at hlt
      by_cases hz : ws[k] = 0
      · have hz' : ((ws[k] : Int) == 0) = true := by simp [hz]
        have HZ := Lib.hid (bitsTo_skip hlt hz)
        clear hz
        go_wp2
        go_roundw
        case rel => exact ⟨k + 1, by omega, by go_num, by rw [HZ.out]; exact hown, hbw⟩
        case measure => simp [intOf]; omega
      · have hz' : ((ws[k] : Int) == 0) = false := by simpa using hz
        have HZ := Lib.hid hz
        clear hz
        go_wp2
        obtain ⟨wo, rfl⟩ : ∃ wo : World, wo = wr := ⟨_, rfl⟩
        go_loopw [3, 18] (fun v i wr => ∃ j : Nat, j ≤ 64 ∧ i = .int .i64 j ∧ Own cellsInt 1 w.heap.size 3 wr v (bitsTo ws (k * 64 + j)) ∧ Below w.heap.size w wr) (fun _ i _ => 64 - (intOf i).toNat)
        case atStart => exact ⟨0, Nat.zero_le _, rfl, hown, hbw⟩
        case round =>
          obtain ⟨j, hj, rfl, hown2, hbw2⟩ := hrel
          by_cases hjt : j < 64
          · have HT := Lib.hid (bit_test ws[k] j (wordsOk_at hw hlt))
            have HA := Lib.hid (bitAt_word hlt hjt)
            cases hbit : ws[k].testBit j with
            | true =>
              have hbt : (bits .and .u64 ((ws[k] : Int) / 2 ^ j) 1 == 1) = true := by rw [HT.out, hbit]
              have HY := Lib.hid (bitsTo_yes (HA.out.trans hbit))
              have hle := bitsTo_len ws (k * 64 + j)
              clear hbit c0
              go_wp2_with (at_builtin; refine wpList_push intTy cellsInt_ok rfl (.tmp 27) (.tmp 32) rfl w.heap.size _ (bitsTo ws (k * 64 + j)) rfl (hown2.alloc _) ((k : Int) * 64 + (j : Int)) _ _ rfl (cells_one_new _ _ _) (by unfold maxLen; omega) (by omega) (by have := hbw2.size; simp; omega) ?_; intro v1 w1 hown1 hb1)
              go_roundw
              case rel => exact ⟨j + 1, by omega, by go_num, by rw [← Nat.add_assoc, HY.out]; exact hown1, (bw_alloc hbw2).trans hb1⟩
              case measure => simp [intOf]; omega
            | false =>
              have hbt : (bits .and .u64 ((ws[k] : Int) / 2 ^ j) 1 == 1) = false := by rw [HT.out, hbit]
              have HY := Lib.hid (bitsTo_no (HA.out.trans hbit))
              clear hbit c0
              go_wp2
              go_roundw
              case rel => exact ⟨j + 1, by omega, by go_num, by rw [← Nat.add_assoc, HY.out]; exact hown2, hbw2⟩
              case measure => simp [intOf]; omega
          · have hj64 : j = 64 := by omega
            have HJ := Lib.hid hj64
            clear hj64
            go_wp2
            go_roundw
            case rel => exact ⟨k + 1, by omega, by go_num, by rw [show (k + 1) * 64 = k * 64 + j by have := HJ.out; omega]; exact hown2, hbw2⟩
            case measure => simp [intOf]; omega
    · have HK := Lib.hid (show k = ws.length by omega)
      go_wp2
      go_ret
      exact ⟨⟨_, rfl, by rw [← HK.out]; exact hown⟩, hbw⟩
end Go.Proofs.Ytcmooklcaeggbaa
