/-
  Joined (wip/merge.py): BitsA, BitsB, BitsC.
-/
import Derived.Test.YthlpndgfphjlkaaProg
import Derived.Test.YthlpndgfphjlkaaLib
import Derived.Test.YthlpndgfphjlkaaCfgD

namespace Go.Proofs.Ythlpndgfphjlkaa
open Go.RowKit
set_option linter.unusedVariables false

def bitAt (ws : List Nat) (x : Nat) : Bool := (ws.getD (x / 64) 0).testBit (x % 64)
def wordsOk (ws : List Nat) : Prop := ∀ i, ws.getD i 0 < 18446744073709551616
theorem bit_test (W j : Nat) (hW : W < 18446744073709551616) : (bits .and .u64 ((W : Int) / 2 ^ j) 1 == 1) = W.testBit j := by
  have e : ((W : Int) / 2 ^ j) = ((W / 2 ^ j : Nat) : Int) := by
    rw [Int.natCast_ediv, Int.natCast_pow]; rfl
  have h1 : W / 2 ^ j < 18446744073709551616 := Nat.lt_of_le_of_lt (Nat.div_le_self _ _) hW
  rw [e, show (1 : Int) = ((1 : Nat) : Int) from rfl, u64_and_nat _ _ h1 (by omega), Nat.and_one_is_mod, Nat.testBit_eq_decide_div_mod_eq, Bool.eq_iff_iff]
  simp only [beq_iff_eq, decide_eq_true_eq]
  omega
theorem bitAt_lt {ws : List Nat} {x : Nat} (h : x / 64 < ws.length) : bitAt ws x = ws[x / 64].testBit (x % 64) := by
  unfold bitAt; rw [List.getD_eq_getElem?_getD, List.getElem?_eq_getElem h]; rfl
theorem bitAt_ge {ws : List Nat} {x : Nat} (h : ¬ x / 64 < ws.length) : bitAt ws x = false := by
  unfold bitAt; rw [List.getD_eq_getElem?_getD, List.getElem?_eq_none (by omega)]; simp
theorem wordsOk_at {ws : List Nat} (h : wordsOk ws) {i : Nat} (hi : i < ws.length) : ws[i] < 18446744073709551616 := by
  have := h i
  rwa [List.getD_eq_getElem?_getD, List.getElem?_eq_getElem hi] at this


/-! ### List -/
def bitsTo (ws : List Nat) (m : Nat) : List Int := ((List.range m).filter (bitAt ws)).map fun (x : Nat) => (x : Int)
theorem bitsTo_zero (ws : List Nat) : bitsTo ws 0 = [] := rfl
theorem bitsTo_yes {ws : List Nat} {m : Nat} (h : bitAt ws m = true) : bitsTo ws (m + 1) = bitsTo ws m ++ [(m : Int)] := by
  unfold bitsTo; rw [List.range_succ, List.filter_append, List.map_append]; simp [h]
theorem bitsTo_no {ws : List Nat} {m : Nat} (h : bitAt ws m = false) : bitsTo ws (m + 1) = bitsTo ws m := by
  unfold bitsTo; rw [List.range_succ, List.filter_append, List.map_append]; simp [h]
theorem bitsTo_len (ws : List Nat) (m : Nat) : (bitsTo ws m).length ≤ m := by
  unfold bitsTo; rw [List.length_map]; exact Nat.le_trans (List.length_filter_le _ _) (by simp)
theorem bitsTo_skip {ws : List Nat} {i : Nat} (hi : i < ws.length) (h : ws[i] = 0) : bitsTo ws ((i + 1) * 64) = bitsTo ws (i * 64) := by
  have : ∀ j, j ≤ 64 → bitsTo ws (i * 64 + j) = bitsTo ws (i * 64) := by
    intro j
    induction j with
    | zero => intro _; rfl
    | succ j ih =>
      intro hj
      rw [show i * 64 + (j + 1) = (i * 64 + j) + 1 by omega, bitsTo_no, ih (by omega)]
      rw [bitAt_lt (by omega)]
      have e : (i * 64 + j) / 64 = i := by omega
      simp only [e, h]
      simp
  have h2 := this 64 (Nat.le_refl _)
  rwa [show i * 64 + 64 = (i + 1) * 64 by omega] at h2
theorem bitAt_word {ws : List Nat} {i j : Nat} (hi : i < ws.length) (hj : j < 64) : bitAt ws (i * 64 + j) = ws[i].testBit j := by
  rw [bitAt_lt (by omega)]
  have e : (i * 64 + j) / 64 = i := by omega
  have e2 : (i * 64 + j) % 64 = j := by omega
  simp only [e, e2]


set_option maxHeartbeats 1000000 in
theorem bitsList_any (A : Option Addr) (c : Nat) (ws : List Nat) (w : World) (hl : ws.length ≤ 1024) (hw : wordsOk ws) (hs : Sl Lay.word w A ws) :
    Calls Try.prog 41 #[.slice A ws.length c] w fun e w' => (∃ v, e = .returned v ∧ Own cellsInt 1 w.heap.size 3 w' v (bitsTo ws (ws.length * 64))) ∧ Below w.heap.size w w' := by
  go_enter Try.func41, Try.ntmps41
  go_wp2
  go_loopw [3, 9] (fun v i wr => ∃ k : Nat, k ≤ ws.length ∧ i = .int .i64 k ∧ Own cellsInt 1 w.heap.size 3 wr v (bitsTo ws (k * 64)) ∧ Below w.heap.size w wr) (fun _ i _ => ws.length - (intOf i).toNat)
  case atStart => exact ⟨0, Nat.zero_le _, rfl, Own.nil, Below.refl _ _⟩
  case round =>
    obtain ⟨k, hk, rfl, hown, hbw⟩ := hrel
    by_cases hlt : k < ws.length
    · obtain ⟨b, o, rfl, hb, c0⟩ := (hs.mono hbw).word_at hlt
      by_cases hz : ws[k] = 0
      · have hz' : ((ws[k] : Int) == 0) = true := by simp [hz]
        have HZ := Lib.hid (bitsTo_skip hlt hz)
        clear hz
        go_wp2
        go_roundw
        case rel => exact ⟨k + 1, by omega, by go_num, by rw [HZ.out]; exact hown, hbw⟩
        case measure => simp [intOf]; omega
      · have hz' : ((ws[k] : Int) == 0) = false := by simpa using hz
        have HZ := Lib.hid hz
        clear hz
        go_wp2
        obtain ⟨wo, rfl⟩ : ∃ wo : World, wo = wr := ⟨_, rfl⟩
        go_loopw [3, 18] (fun v i wr => ∃ j : Nat, j ≤ 64 ∧ i = .int .i64 j ∧ Own cellsInt 1 w.heap.size 3 wr v (bitsTo ws (k * 64 + j)) ∧ Below w.heap.size w wr) (fun _ i _ => 64 - (intOf i).toNat)
        case atStart => exact ⟨0, Nat.zero_le _, rfl, hown, hbw⟩
        case round =>
          obtain ⟨j, hj, rfl, hown2, hbw2⟩ := hrel
          by_cases hjt : j < 64
          · have HT := Lib.hid (bit_test ws[k] j (wordsOk_at hw hlt))
            have HA := Lib.hid (bitAt_word hlt hjt)
            cases hbit : ws[k].testBit j with
            | true =>
              have hbt : (bits .and .u64 ((ws[k] : Int) / 2 ^ j) 1 == 1) = true := by rw [HT.out, hbit]
              have HY := Lib.hid (bitsTo_yes (HA.out.trans hbit))
              have hle := bitsTo_len ws (k * 64 + j)
              clear hbit c0
              go_wp2_with (at_builtin; refine wpList_push intTy cellsInt_ok rfl (.tmp 27) (.tmp 32) rfl w.heap.size _ (bitsTo ws (k * 64 + j)) rfl (hown2.alloc _) ((k : Int) * 64 + (j : Int)) _ _ rfl (cells_one_new _ _ _) (by unfold maxLen; omega) (by omega) (by have := hbw2.size; simp; omega) ?_; intro v1 w1 hown1 hb1)
              go_roundw
              case rel => exact ⟨j + 1, by omega, by go_num, by rw [← Nat.add_assoc, HY.out]; exact hown1, (bw_alloc hbw2).trans hb1⟩
              case measure => simp [intOf]; omega
            | false =>
              have hbt : (bits .and .u64 ((ws[k] : Int) / 2 ^ j) 1 == 1) = false := by rw [HT.out, hbit]
              have HY := Lib.hid (bitsTo_no (HA.out.trans hbit))
              clear hbit c0
              go_wp2
              go_roundw
              case rel => exact ⟨j + 1, by omega, by go_num, by rw [← Nat.add_assoc, HY.out]; exact hown2, hbw2⟩
              case measure => simp [intOf]; omega
          · have hj64 : j = 64 := by omega
            have HJ := Lib.hid hj64
            clear hj64
            go_wp2
            go_roundw
            case rel => exact ⟨k + 1, by omega, by go_num, by rw [show (k + 1) * 64 = k * 64 + j by have := HJ.out; omega]; exact hown2, hbw2⟩
            case measure => simp [intOf]; omega
    · have HK := Lib.hid (show k = ws.length by omega)
      go_wp2
      go_ret
      exact ⟨⟨_, rfl, by rw [← HK.out]; exact hown⟩, hbw⟩
end Go.Proofs.Ythlpndgfphjlkaa

namespace Go.Proofs.Ythlpndgfphjlkaa
open Go.RowKit
set_option linter.unusedVariables false

/-- ws without the zero words at its end. -/
def IsNorm (ws : List Nat) (m : Nat) : Prop := m ≤ ws.length ∧ (∀ i, m ≤ i → ws.getD i 0 = 0) ∧ (m = 0 ∨ ws.getD (m - 1) 0 ≠ 0)
theorem IsNorm.bit {ws : List Nat} {m : Nat} (h : IsNorm ws m) (x : Nat) : bitAt (ws.take m) x = bitAt ws x := by
  unfold bitAt
  rw [List.getD_eq_getElem?_getD, List.getElem?_take]
  split
  · rw [List.getD_eq_getElem?_getD]
  · rw [h.2.1 _ (by omega)]; rfl
theorem IsNorm.ok {ws : List Nat} {m : Nat} (hw : wordsOk ws) : wordsOk (ws.take m) := fun i => by
  rw [List.getD_eq_getElem?_getD, List.getElem?_take]
  split
  · have := hw i; rwa [List.getD_eq_getElem?_getD] at this
  · simp
theorem Sl.take {α : Type} {L : Lay α} {w : World} {A : Option Addr} {l : List α} (h : Sl L w A l) (m : Nat) : Sl L w A (l.take m) := fun i x hx => by
  rw [List.getElem?_take] at hx
  split at hx
  · exact h i x hx
  · cases hx

/-- A set of numbers, as a slice of words, somewhere in memory. -/
def BitsV (w : World) (v : Value) (ws : List Nat) : Prop := ∃ A c, v = .slice A ws.length c ∧ ws.length ≤ c ∧ Sl Lay.word w A ws

def NormR (ws : List Nat) (w' : World) (v : Value) : Prop := ∃ m, IsNorm ws m ∧ BitsV w' v (ws.take m)

set_option maxHeartbeats 400000 in
theorem bitsNormal_any (A : Option Addr) (c : Nat) (ws : List Nat) (w : World) (hl : ws.length ≤ 1024) (hc : ws.length ≤ c) (hs : Sl Lay.word w A ws) :
    Calls Try.prog 59 #[.slice A ws.length c] w fun e w' => (∃ v, e = .returned v ∧ NormR ws w' v) ∧ w = w' := by
  go_enter Try.func59, Try.ntmps59
  go_wp2
  go_loop [3] (fun i => ∃ m : Nat, m ≤ ws.length ∧ i = .int .i64 m ∧ Hid (∀ i, m ≤ i → ws.getD i 0 = 0)) (fun i => (intOf i).toNat)
  case atStart => exact ⟨ws.length, Nat.le_refl _, rfl, fun i hi => by rw [List.getD_eq_getElem?_getD, List.getElem?_eq_none hi]; rfl⟩
  case round =>
    obtain ⟨m, hm, rfl, HZ⟩ := hrel
    by_cases h0 : 0 < m
    · have hz : decide (0 < m) = true := by simpa using h0
      obtain ⟨b, o, rfl, hb, c0⟩ := hs.word_at (i := m - 1) (by omega)
      by_cases hw0 : ws[m - 1] = 0
      · have hw1 : ((ws[m - 1] : Int) == 0) = true := by simp [hw0]
        have HW := Lib.hid hw0
        clear hw0
        go_wp2
        go_round
        case rel => exact ⟨m - 1, by omega, by go_num, fun i hi => by
          rcases Nat.lt_or_ge i m with h1 | h1
          · rw [show i = m - 1 by omega, List.getD_eq_getElem?_getD, List.getElem?_eq_getElem (by omega)]; exact HW.out
          · exact HZ.out i h1⟩
        case measure => simp [intOf]; omega
      · have hw1 : ((ws[m - 1] : Int) == 0) = false := by simpa using hw0
        have HW := Lib.hid hw0
        clear hw0
        have hm0 : ((m : Int) == 0) = false := by simp; omega
        have hmc : (m : Int) ≤ c := by omega
        go_wp2
        go_ret
        exact ⟨⟨_, rfl, m, ⟨hm, HZ.out, Or.inr (by rw [List.getD_eq_getElem?_getD, List.getElem?_eq_getElem (by omega)]; exact HW.out)⟩, ⟨_, m, by rw [List.length_take, Nat.min_eq_left hm]; rfl, by rw [List.length_take]; omega, hs.take m⟩⟩, rfl⟩
    · have hz : decide (0 < m) = false := by simpa using h0
      have hm0 : ((m : Int) == 0) = true := by simp; omega
      go_wp2
      go_ret
      exact ⟨⟨_, rfl, 0, ⟨Nat.zero_le _, fun i hi => HZ.out i (by omega), Or.inl rfl⟩, ⟨none, 0, rfl, Nat.le_refl _, Sl.nil⟩⟩, rfl⟩


/-! ### Of -/
def wordsFor (l : List Int) : Nat := l.foldl (fun m x => max m (x.toNat / 64 + 1)) 0
theorem wordsFor_snoc (l : List Int) (x : Int) : wordsFor (l ++ [x]) = max (wordsFor l) (x.toNat / 64 + 1) := by unfold wordsFor; rw [List.foldl_append]; rfl
def orBit (ws : List Nat) (x : Int) : List Nat := ws.set (x.toNat / 64) (ws.getD (x.toNat / 64) 0 ||| 2 ^ (x.toNat % 64))
def orBits (ws : List Nat) (l : List Int) : List Nat := l.foldl orBit ws
theorem orBits_snoc (ws : List Nat) (l : List Int) (x : Int) : orBits ws (l ++ [x]) = orBit (orBits ws l) x := by unfold orBits; rw [List.foldl_append]; rfl
theorem orBits_len (ws : List Nat) (l : List Int) : (orBits ws l).length = ws.length := by
  induction l generalizing ws with
  | nil => rfl
  | cons x r ih => unfold orBits at *; rw [List.foldl_cons, ih]; unfold orBit; rw [List.length_set]
theorem take_snoc {α : Type} {l : List α} {k : Nat} (h : k < l.length) : l.take (k + 1) = l.take k ++ [l[k]] := List.take_succ_eq_append_getElem h

end Go.Proofs.Ythlpndgfphjlkaa

namespace Go.Proofs.Ythlpndgfphjlkaa
open Go.RowKit
set_option linter.unusedVariables false

theorem wordTy : ElemTy Try.prog 73 92 1 8 (.int .u64 0) := ⟨Try.underlying73, by kernel_rfl, rfl, by omega⟩

def OfR (l : List Int) (w' : World) (v : Value) : Prop := ∃ ws, wordsOk ws ∧ ws.length ≤ 1024 ∧ BitsV w' v ws ∧ ∀ x : Nat, bitAt ws x = decide ((x : Int) ∈ l)

theorem wordsFor_take_le {l : List Int} (h : ∀ x ∈ l, 0 ≤ x ∧ x < 65536) : ∀ k, wordsFor (l.take k) ≤ 1024
  | 0 => by simp [wordsFor]
  | k + 1 => by
    have ih := wordsFor_take_le h k
    rcases Nat.lt_or_ge k l.length with hk | hk
    · rw [take_snoc hk, wordsFor_snoc]
      have h2 := h l[k] (by simp)
      omega
    · rw [List.take_of_length_le (by omega)]; rwa [List.take_of_length_le (by omega)] at ih
theorem wordsFor_mem {l : List Int} : ∀ (k : Nat) (i : Nat) (hi : i < l.length), i < k → l[i].toNat / 64 + 1 ≤ wordsFor (l.take k)
  | 0, i, hi, h => by omega
  | k + 1, i, hi, h => by
    rcases Nat.lt_or_ge k l.length with hk | hk
    · rw [take_snoc hk, wordsFor_snoc]
      by_cases e : i = k
      · subst e; omega
      · have := wordsFor_mem k i hi (by omega); omega
    · rw [List.take_of_length_le (by omega)]
      have := wordsFor_mem k i hi (by omega)
      rwa [List.take_of_length_le (by omega)] at this
theorem getD_replicate (n i : Nat) : (List.replicate n 0).getD i 0 = 0 := by
  rw [List.getD_eq_getElem?_getD, List.getElem?_replicate]; split <;> rfl
theorem wordsOk_orBit {ws : List Nat} (h : wordsOk ws) (x : Int) : wordsOk (orBit ws x) := fun i => by
  unfold orBit
  rw [List.getD_eq_getElem?_getD, List.getElem?_set]
  split
  · split
    · have h1 : x.toNat % 64 < 64 := by omega
      have h2 : (2 : Nat) ^ (x.toNat % 64) < 2 ^ 64 := Nat.pow_lt_pow_right (by omega) h1
      exact Nat.or_lt_two_pow (n := 64) (h _) h2
    · simp
  · have := h i; rwa [List.getD_eq_getElem?_getD] at this
theorem wordsOk_orBits {ws : List Nat} (h : wordsOk ws) (l : List Int) : wordsOk (orBits ws l) := by
  induction l generalizing ws with
  | nil => exact h
  | cons x r ih => exact ih (wordsOk_orBit h x)
theorem bitAt_orBit {ws : List Nat} {x : Int} (hx : 0 ≤ x) (h : x.toNat / 64 < ws.length) (y : Nat) : bitAt (orBit ws x) y = (bitAt ws y || decide ((y : Int) = x)) := by
  unfold bitAt orBit
  rw [List.getD_eq_getElem?_getD, List.getElem?_set]
  by_cases e : x.toNat / 64 = y / 64
  · rw [if_pos e, if_pos h, ← e, Option.getD_some, Nat.testBit_or, Nat.testBit_two_pow]
    congr 1
    rw [decide_eq_decide]
    omega
  · rw [if_neg e, List.getD_eq_getElem?_getD]
    rw [decide_eq_false (by omega), Bool.or_false]
theorem bitAt_orBits {ws : List Nat} {l : List Int} (hx : ∀ x ∈ l, 0 ≤ x) (h : ∀ x ∈ l, x.toNat / 64 < ws.length) (y : Nat) : bitAt (orBits ws l) y = (bitAt ws y || decide ((y : Int) ∈ l)) := by
  induction l generalizing ws with
  | nil => simp [orBits]
  | cons x r ih =>
    have e : orBits ws (x :: r) = orBits (orBit ws x) r := rfl
    have hlen : (orBit ws x).length = ws.length := by unfold orBit; rw [List.length_set]
    rw [e, ih (fun z hz => hx z (by simp [hz])) (fun z hz => by rw [hlen]; exact h z (by simp [hz])), bitAt_orBit (hx x (by simp)) (h x (by simp)), Bool.or_assoc]
    congr 1
    rw [← Bool.decide_or, decide_eq_decide]
    simp
theorem wordsOk_zero (n : Nat) : wordsOk (List.replicate n 0) := fun i => by rw [getD_replicate]; omega
theorem or_word (W j : Nat) (hW : W < 18446744073709551616) (hj : j < 64) : bits .or .u64 (W : Int) (IntKind.u64.wrap (2 ^ j)) = ((W ||| 2 ^ j : Nat) : Int) := by
  have h2 : (2 : Nat) ^ j < 2 ^ 64 := Nat.pow_lt_pow_right (by omega) hj
  have h3 : ((2 ^ j : Nat) : Int) < 18446744073709551616 := Int.ofNat_lt.2 h2
  have e : IntKind.u64.wrap (2 ^ j) = ((2 ^ j : Nat) : Int) := by
    rw [show ((2 : Int) ^ j) = ((2 ^ j : Nat) : Int) by rw [Int.natCast_pow]; rfl, IntKind.wrap_u64]
    exact Int.emod_eq_of_lt (Int.natCast_nonneg _) h3
  rw [e]
  exact u64_or_nat _ _ hW h2

set_option maxHeartbeats 1000000 in
theorem bitsOf_any (A : Option Addr) (c : Nat) (l : List Int) (w : World) (hl : l.length ≤ 9223372036854775807) (hv : Hid (∀ x ∈ l, 0 ≤ x ∧ x < 65536)) (hs : Sl Lay.int w A l) :
    Calls Try.prog 40 #[.slice A l.length c] w fun e w' => (∃ v, e = .returned (.tuple #[v, .int .i64 0]) ∧ OfR l w' v) ∧ Below w.heap.size w w' := by
  go_enter Try.func40, Try.ntmps40
  go_wp2
  go_loop [4, 12] (fun m i => ∃ k : Nat, k ≤ l.length ∧ i = .int .i64 k ∧ m = .int .i64 (wordsFor (l.take k) : Nat)) (fun _ i => l.length - (intOf i).toNat)
  case atStart => exact ⟨0, Nat.zero_le _, rfl, rfl⟩
  case round =>
    obtain ⟨k, hk, rfl, rfl⟩ := hrel
    by_cases hlt : k < l.length
    · obtain ⟨b, o, rfl, hb, c0⟩ := hs.int_at hlt
      obtain ⟨x0, x1⟩ := hv.out l[k] (by simp)
      have HW := Lib.hid (wordsFor_snoc (l.take k) l[k])
      rw [← take_snoc hlt] at HW
      have hwl := wordsFor_take_le hv.out k
      go_wp2
      go_round
      case rel => exact ⟨k + 1, by omega, by go_num, by rw [HW.out]; congr 1; split <;> omega⟩
      case measure => simp [intOf]; omega
    · have hkl : k = l.length := by omega
      subst hkl
      have hwl := wordsFor_take_le hv.out l.length
      rw [List.take_length] at hwl ⊢
      have HM := Lib.hid (fun i hi => wordsFor_mem (l := l) l.length i hi hi)
      rw [List.take_length] at HM
      generalize hgn : wordsFor l = n at *
      have hmk := fun W => wordTy.make .i64 .i64 n (by omega) (by omega) W
      clear hgn
      go_wp2
      go_loopw [29] (fun i wr => ∃ k : Nat, k ≤ l.length ∧ i = .int .i64 k ∧ Own (fun x => [cellWord x]) 1 w.heap.size 92 wr (.slice (some ⟨w.heap.size, 0, none⟩) n n) (orBits (List.replicate n 0) (l.take k)) ∧ Below w.heap.size w wr) (fun i _ => l.length - (intOf i).toNat)
      case atStart => exact ⟨0, Nat.zero_le _, rfl, Own.made _ _ _ _ (by simp [orBits]) (Nat.le_refl _) (by unfold maxLen; omega) (by simp [orBits, cellWord]), (by repeat (first | assumption | exact Below.refl _ _ | apply bw_alloc | apply bw_drew | apply bw_drewN | apply bw_later | apply bw_step))⟩
      case round =>
        obtain ⟨k, hk, rfl, hown, hbw⟩ := hrel
        have HR := Lib.hid (orBits_len (List.replicate n 0) (l.take k))
        rw [List.length_replicate] at HR
        have HO := Lib.hid (wordsOk_orBits (wordsOk_zero n) (l.take k))
        by_cases hlt : k < l.length
        · have HS := Lib.hid (orBits_snoc (List.replicate n 0) (l.take k) l[k])
          rw [← take_snoc hlt] at HS
          generalize hws : orBits (List.replicate n 0) (l.take k) = ws at *
          clear hws
          obtain ⟨b, o, rfl, hb, c0⟩ := (hs.mono hbw).int_at hlt
          obtain ⟨x0, x1⟩ := hv.out l[k] (by simp)
          have hj : (l[k] / 64).toNat < ws.length := by have := HM.out k hlt; have := HR.out; omega
          have hjn : (l[k] / 64).toNat < n := by have := HR.out; omega
          have d0 := hown.at1 HR.out hj
          have d1 := hown.free1 HR.out (l[k] / 64).toNat
          unfold cellWord at d0
          have h64 : l[k] / 64 < n := by omega
          have HW := Lib.hid (or_word ws[(l[k] / 64).toNat] (l[k] % 64).toNat (wordsOk_at HO.out hj) (by omega))
          have HB : Hid (orBit ws l[k] = ws.set (l[k] / 64).toNat (ws[(l[k] / 64).toNat] ||| 2 ^ (l[k] % 64).toNat)) := by
            show _ = _
            unfold orBit
            rw [show l[k].toNat / 64 = (l[k] / 64).toNat by omega, show l[k].toNat % 64 = (l[k] % 64).toNat by omega, List.getD_eq_getElem?_getD, List.getElem?_eq_getElem hj, Option.getD_some]
          go_wp2
          go_roundw
          case rel => exact ⟨k + 1, by omega, by go_num, by rw [HS.out, HB.out, HW.out]; exact hown.set1 HR.out _ _, bw_setCell hbw (Nat.le_refl _)⟩
          case measure => simp [intOf]; omega
        · have hkl : k = l.length := by omega
          subst hkl
          rw [List.take_length] at hown HR HO
          have HA := Lib.hid (fun y => bitAt_orBits (ws := List.replicate n 0) (l := l) (fun x hx => (hv.out x hx).1) (fun x hx => by
            obtain ⟨i, hi, e⟩ := List.getElem_of_mem hx
            have := HM.out i hi
            rw [e] at this
            rw [List.length_replicate]; omega) y)
          generalize hws : orBits (List.replicate n 0) l = ws at *
          clear hws
          obtain ⟨A', c', e1, e2, hsl⟩ := Own.sl (L := Lay.word) hown rfl (fun x => rfl)
          simp only [Value.slice.injEq] at e1
          obtain ⟨rfl, -, rfl⟩ := e1
          have HR2 := HR.out
          subst HR2
          clear hmk
          go_wp2_with fail
          refine (bitsNormal_any _ _ ws _ (by omega) (Nat.le_refl _) hsl).mono ?_
          rintro e w' ⟨⟨v, rfl, m, hm, hbv⟩, rfl⟩
          go_wp2_with fail
          go_ret2
          refine ⟨⟨_, rfl, ws.take m, IsNorm.ok HO.out, by rw [List.length_take]; omega, hbv, fun x => ?_⟩, hbw⟩
          rw [hm.bit, HA.out]
          unfold bitAt
          rw [getD_replicate]
          simp
end Go.Proofs.Ythlpndgfphjlkaa
