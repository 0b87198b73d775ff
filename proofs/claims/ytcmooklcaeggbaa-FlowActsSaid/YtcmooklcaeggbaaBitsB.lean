/-
  Contracts of package bits: normal, Of.
-/
import Derived.Test.YtcmooklcaeggbaaBitsA
namespace Go.Proofs.Ytcmooklcaeggbaa
open Go.RowKit
set_option linter.unusedVariables false

/-- ws without the zero words at its end. -/
def IsNorm (ws : List Nat) (m : Nat) : Prop := m ≤ ws.length ∧ (∀ i, m ≤ i → ws.getD i 0 = 0) ∧ (m = 0 ∨ ws.getD (m - 1) 0 ≠ 0)
theorem IsNorm.bit {ws : List Nat} {m : Nat} (h : IsNorm ws m) (x : Nat) : bitAt (ws.take m) x = bitAt ws x := by
  unfold bitAt
  rw [List.getD_eq_getElem?_getD, List.getElem?_take]
  split
  · rw [List.getD_eq_getElem?_getD]
  · rw [h.2.1 _ (by omega)]; rfl
theorem IsNorm.ok {ws : List Nat} {m : Nat} (hw : wordsOk ws) : wordsOk (ws.take m) := fun i => by
  rw [List.getD_eq_getElem?_getD, List.getElem?_take]
  split
  · have := hw i; rwa [List.getD_eq_getElem?_getD] at this
  · simp
theorem Sl.take {α : Type} {L : Lay α} {w : World} {A : Option Addr} {l : List α} (h : Sl L w A l) (m : Nat) : Sl L w A (l.take m) := fun i x hx => by
  rw [List.getElem?_take] at hx
  split at hx
  · exact h i x hx
  · cases hx

/-- A set of numbers, as a slice of words, somewhere in memory. -/
def BitsV (w : World) (v : Value) (ws : List Nat) : Prop := ∃ A c, v = .slice A ws.length c ∧ ws.length ≤ c ∧ Sl Lay.word w A ws

def NormR (ws : List Nat) (w' : World) (v : Value) : Prop := ∃ m, IsNorm ws m ∧ BitsV w' v (ws.take m)

set_option maxHeartbeats 400000 in
theorem bitsNormal_any (A : Option Addr) (c : Nat) (ws : List Nat) (w : World) (hl : ws.length ≤ 1024) (hc : ws.length ≤ c) (hs : Sl Lay.word w A ws) :
    Calls Try.prog 43 #[.slice A ws.length c] w fun e w' => (∃ v, e = .returned v ∧ NormR ws w' v) ∧ w = w' := by
  go_enter Try.func43, Try.ntmps43
  go_wp2
  go_loop [3] (fun i => ∃ m : Nat, m ≤ ws.length ∧ i = .int .i64 m ∧ Hid (∀ i, m ≤ i → ws.getD i 0 = 0)) (fun i => (intOf i).toNat)
  case atStart => exact ⟨ws.length, Nat.le_refl _, rfl, fun i hi => by rw [List.getD_eq_getElem?_getD, List.getElem?_eq_none hi]; rfl⟩
  case round =>
    obtain ⟨m, hm, rfl, HZ⟩ := hrel
    by_cases h0 : 0 < m
    · have hz : decide (0 < m) = true := by simpa using h0
      obtain ⟨b, o, rfl, hb, c0⟩ := hs.word_at (i := m - 1) (by omega)
      by_cases hw0 : ws[m - 1] = 0
      · have hw1 : ((ws[m - 1] : Int) == 0) = true := by simp [hw0]
        have HW := Lib.hid hw0
        clear hw0
        go_wp2
        go_round
        case rel => exact ⟨m - 1, by omega, by go_num, fun i hi => by
          rcases Nat.lt_or_ge i m with h1 | h1
          · rw [show i = m - 1 by omega, List.getD_eq_getElem?_getD, List.getElem?_eq_getElem (by omega)]; exact HW.out
          · exact HZ.out i h1⟩
        case measure => simp [intOf]; omega
      · have hw1 : ((ws[m - 1] : Int) == 0) = false := by simpa using hw0
        have HW := Lib.hid hw0
        clear hw0
        have hm0 : ((m : Int) == 0) = false := by simp; omega
        have hmc : (m : Int) ≤ c := by omega
        go_wp2
        go_ret
        exact ⟨⟨_, rfl, m, ⟨hm, HZ.out, Or.inr (by rw [List.getD_eq_getElem?_getD, List.getElem?_eq_getElem (by omega)]; exact HW.out)⟩, ⟨_, m, by rw [List.length_take, Nat.min_eq_left hm]; rfl, by rw [List.length_take]; omega, hs.take m⟩⟩, rfl⟩
    · have hz : decide (0 < m) = false := by simpa using h0
      have hm0 : ((m : Int) == 0) = true := by simp; omega
      go_wp2
      go_ret
      exact ⟨⟨_, rfl, 0, ⟨Nat.zero_le _, fun i hi => HZ.out i (by omega), Or.inl rfl⟩, ⟨none, 0, rfl, Nat.le_refl _, Sl.nil⟩⟩, rfl⟩


/-! ### Of -/
def wordsFor (l : List Int) : Nat := l.foldl (fun m x => max m (x.toNat / 64 + 1)) 0
theorem wordsFor_snoc (l : List Int) (x : Int) : wordsFor (l ++ [x]) = max (wordsFor l) (x.toNat / 64 + 1) := by unfold wordsFor; rw [List.foldl_append]; rfl
def orBit (ws : List Nat) (x : Int) : List Nat := ws.set (x.toNat / 64) (ws.getD (x.toNat / 64) 0 ||| 2 ^ (x.toNat % 64))
def orBits (ws : List Nat) (l : List Int) : List Nat := l.foldl orBit ws
theorem orBits_snoc (ws : List Nat) (l : List Int) (x : Int) : orBits ws (l ++ [x]) = orBit (orBits ws l) x := by unfold orBits; rw [List.foldl_append]; rfl
theorem orBits_len (ws : List Nat) (l : List Int) : (orBits ws l).length = ws.length := by
  induction l generalizing ws with
  | nil => rfl
  | cons x r ih => unfold orBits at *; rw [List.foldl_cons, ih]; unfold orBit; rw [List.length_set]
theorem take_snoc {α : Type} {l : List α} {k : Nat} (h : k < l.length) : l.take (k + 1) = l.take k ++ [l[k]] := List.take_succ_eq_append_getElem h

end Go.Proofs.Ytcmooklcaeggbaa
