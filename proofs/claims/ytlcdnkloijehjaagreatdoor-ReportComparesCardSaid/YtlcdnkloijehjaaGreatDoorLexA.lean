/-
  Package lex: identifiers.
-/
import Derived.Test.YtlcdnkloijehjaaGreatDoorProg
import Derived.Test.YtlcdnkloijehjaaGreatDoorLib
namespace Go.Proofs.YtlcdnkloijehjaaGreatDoor
open Go.RowKit
set_option linter.unusedVariables false

def letterB (c : Int) : Bool := (decide (97 ≤ c) && decide (c ≤ 122)) || (decide (65 ≤ c) && decide (c ≤ 90))
def digitB (c : Int) : Bool := decide (48 ≤ c) && decide (c ≤ 57)
def partB (c : Int) : Bool := letterB c || digitB c || c == 95
theorem letter_any (c : Int) (w : World) : Calls Tryz.prog 104 #[.int .u8 c] w fun e w' => e = .returned (.bool (letterB c)) ∧ w = w' := by
  by_cases h1 : 97 ≤ c
  · by_cases h2 : c ≤ 122
    · have e : letterB c = true := by simp [letterB, h1, h2]
      have d1 : decide (97 ≤ c) = true := decide_eq_true h1
      have d2 : decide (c ≤ 122) = true := decide_eq_true h2
      rw [e]
      go_enter Tryz.func104, Tryz.ntmps104
      go_wp2_with fail
      go_ret
      exact ⟨rfl, rfl⟩
    · have e : letterB c = false := by simp [letterB]; omega
      have d1 : decide (97 ≤ c) = true := decide_eq_true h1
      have d2 : decide (c ≤ 122) = false := decide_eq_false h2
      have d3 : decide (65 ≤ c) = true := decide_eq_true (by omega)
      have d4 : decide (c ≤ 90) = false := decide_eq_false (by omega)
      rw [e]
      go_enter Tryz.func104, Tryz.ntmps104
      go_wp2_with fail
      go_ret
      exact ⟨rfl, rfl⟩
  · have d1 : decide (97 ≤ c) = false := decide_eq_false h1
    by_cases h3 : 65 ≤ c
    · by_cases h4 : c ≤ 90
      · have e : letterB c = true := by simp [letterB, h3, h4]
        have d3 : decide (65 ≤ c) = true := decide_eq_true h3
        have d4 : decide (c ≤ 90) = true := decide_eq_true h4
        rw [e]
        go_enter Tryz.func104, Tryz.ntmps104
        go_wp2_with fail
        go_ret
        exact ⟨rfl, rfl⟩
      · have e : letterB c = false := by simp [letterB]; omega
        have d3 : decide (65 ≤ c) = true := decide_eq_true h3
        have d4 : decide (c ≤ 90) = false := decide_eq_false h4
        rw [e]
        go_enter Tryz.func104, Tryz.ntmps104
        go_wp2_with fail
        go_ret
        exact ⟨rfl, rfl⟩
    · have e : letterB c = false := by simp [letterB]; omega
      have d3 : decide (65 ≤ c) = false := decide_eq_false h3
      rw [e]
      go_enter Tryz.func104, Tryz.ntmps104
      go_wp2_with fail
      go_ret
      exact ⟨rfl, rfl⟩
theorem digit_any (c : Int) (w : World) : Calls Tryz.prog 136 #[.int .u8 c] w fun e w' => e = .returned (.bool (digitB c)) ∧ w = w' := by
  by_cases h1 : 48 ≤ c
  · have d1 : decide (48 ≤ c) = true := decide_eq_true h1
    have e : digitB c = decide (c ≤ 57) := by simp [digitB, h1]
    rw [e]
    go_enter Tryz.func136, Tryz.ntmps136
    go_wp2_with fail
    go_ret
    exact ⟨rfl, rfl⟩
  · have d1 : decide (48 ≤ c) = false := decide_eq_false h1
    have e : digitB c = false := by simp [digitB]; omega
    rw [e]
    go_enter Tryz.func136, Tryz.ntmps136
    go_wp2_with fail
    go_ret
    exact ⟨rfl, rfl⟩
theorem part_any (c : Int) (w : World) : Calls Tryz.prog 106 #[.int .u8 c] w fun e w' => e = .returned (.bool (partB c)) ∧ w = w' := by
  have e : partB c = (letterB c || digitB c || c == 95) := rfl
  rw [e]
  clear e
  go_enter Tryz.func106, Tryz.ntmps106
  go_wp2_with fail
  refine (letter_any c _).mono ?_
  rintro e w1 ⟨rfl, rfl⟩
  cases hq : letterB c with
  | true =>
    go_wp2_with fail
    go_ret
    exact ⟨by rw [hq]; rfl, rfl⟩
  | false =>
    go_wp2_with fail
    refine (digit_any c _).mono ?_
    rintro e w1 ⟨rfl, rfl⟩
    cases hq2 : digitB c with
    | true =>
      go_wp2_with fail
      go_ret
      exact ⟨by rw [hq, hq2]; rfl, rfl⟩
    | false =>
      go_wp2_with fail
      go_ret
      exact ⟨by rw [hq, hq2]; rfl, rfl⟩
def SomeInt (w : World) (e : Ending) (w' : World) : Prop := ∃ n : Int, e = .returned (.int .i64 n) ∧ w = w'
set_option maxHeartbeats 1000000 in
theorem span_some (s : ByteArray) (w : World) (hs : s.size ≤ 9223372036854775807) : Calls Tryz.prog 105 #[.string s, .func (.func 106) #[] #[]] w (SomeInt w) := by
  go_enter Tryz.func105, Tryz.ntmps105
  go_wp2_with fail
  go_loop [5] (fun i => ∃ k : Nat, k ≤ s.size ∧ i = .int .i64 k) (fun i => s.size - (intOf i).toNat)
  case atStart => exact ⟨0, Nat.zero_le _, rfl⟩
  case round =>
    obtain ⟨k, hk, rfl⟩ := hrel
    by_cases hlt : k < s.size
    · go_wp2_with fail
      refine (part_any _ _).mono ?_
      rintro e w1 ⟨rfl, rfl⟩
      cases partB _ with
      | true =>
        go_wp2_with fail
        go_round
        case rel => exact ⟨k + 1, by omega, by go_num⟩
        case measure => simp [intOf]; omega
      | false =>
        go_wp2_with fail
        go_ret
        exact ⟨_, rfl, rfl⟩
    · go_wp2_with fail
      go_ret
      exact ⟨_, rfl, rfl⟩

/-! ### Keywords -/
def kwL : List ByteArray := [⟨#[99, 108, 97, 115, 115]⟩, ⟨#[101, 120, 116, 101, 110, 100, 115]⟩, ⟨#[118, 97, 114]⟩, ⟨#[100, 101, 102]⟩, ⟨#[115, 116, 97, 116, 105, 99]⟩, ⟨#[105, 102]⟩, ⟨#[101, 108, 115, 101]⟩, ⟨#[119, 104, 105, 108, 101]⟩, ⟨#[116, 114, 121]⟩, ⟨#[99, 97, 116, 99, 104]⟩, ⟨#[116, 104, 114, 111, 119]⟩, ⟨#[114, 101, 116, 117, 114, 110]⟩, ⟨#[110, 101, 119]⟩, ⟨#[110, 117, 108, 108]⟩, ⟨#[116, 104, 105, 115]⟩, ⟨#[105, 110, 112, 117, 116]⟩, ⟨#[105, 110, 116]⟩]
/-- The variable of the keywords holds seventeen strings. -/
structure KwAt (w : World) : Prop where
  at_ : ∀ i, i < 17 → ∃ k : ByteArray, w.cell? ⟨1, i, none⟩ = some (.string k)
theorem KwAt.lt {w : World} (h : KwAt w) : 1 < w.heap.size := by
  obtain ⟨k, hk⟩ := h.at_ 0 (by omega)
  unfold World.cell? at hk
  split at hk
  · rename_i hh; exact (Array.getElem?_eq_some_iff.1 hh).1
  · cases hk
theorem KwAt.mono {w w' : World} (h : KwAt w) (hb : Below w.heap.size w w') : KwAt w' :=
  ⟨fun i hi => (h.at_ i hi).imp fun k hk => by rw [hb.cell (p := ⟨_, i, none⟩) h.lt]; exact hk⟩
def SomeBool (w : World) (e : Ending) (w' : World) : Prop := ∃ b : Bool, e = .returned (.bool b) ∧ w = w'
theorem kw_index (k0 k1 k2 k3 k4 k5 k6 k7 k8 k9 k10 k11 k12 k13 k14 k15 k16 : ByteArray) (i : Nat) (hi : i < 17) (w : World) :
    ∃ k : ByteArray, (Instr.index 145 (.agg #[.string k0, .string k1, .string k2, .string k3, .string k4, .string k5, .string k6, .string k7, .string k8, .string k9, .string k10, .string k11, .string k12, .string k13, .string k14, .string k15, .string k16]) (.int .i64 (i : Int))).run Tryz.prog w = .ok (.string k) w := by
  match i, hi with
  | 0, _ => exact ⟨k0, by kernel_rfl⟩
  | 1, _ => exact ⟨k1, by kernel_rfl⟩
  | 2, _ => exact ⟨k2, by kernel_rfl⟩
  | 3, _ => exact ⟨k3, by kernel_rfl⟩
  | 4, _ => exact ⟨k4, by kernel_rfl⟩
  | 5, _ => exact ⟨k5, by kernel_rfl⟩
  | 6, _ => exact ⟨k6, by kernel_rfl⟩
  | 7, _ => exact ⟨k7, by kernel_rfl⟩
  | 8, _ => exact ⟨k8, by kernel_rfl⟩
  | 9, _ => exact ⟨k9, by kernel_rfl⟩
  | 10, _ => exact ⟨k10, by kernel_rfl⟩
  | 11, _ => exact ⟨k11, by kernel_rfl⟩
  | 12, _ => exact ⟨k12, by kernel_rfl⟩
  | 13, _ => exact ⟨k13, by kernel_rfl⟩
  | 14, _ => exact ⟨k14, by kernel_rfl⟩
  | 15, _ => exact ⟨k15, by kernel_rfl⟩
  | 16, _ => exact ⟨k16, by kernel_rfl⟩
  | n + 17, h => exact absurd h (by omega)
set_option maxRecDepth 100000 in
set_option maxHeartbeats 1000000 in
theorem keyword_some (s : ByteArray) (w : World) (hk : KwAt w) : Calls Tryz.prog 107 #[.string s] w (SomeBool w) := by
  obtain ⟨k0, c0⟩ := hk.at_ 0 (by omega)
  obtain ⟨k1, c1⟩ := hk.at_ 1 (by omega)
  obtain ⟨k2, c2⟩ := hk.at_ 2 (by omega)
  obtain ⟨k3, c3⟩ := hk.at_ 3 (by omega)
  obtain ⟨k4, c4⟩ := hk.at_ 4 (by omega)
  obtain ⟨k5, c5⟩ := hk.at_ 5 (by omega)
  obtain ⟨k6, c6⟩ := hk.at_ 6 (by omega)
  obtain ⟨k7, c7⟩ := hk.at_ 7 (by omega)
  obtain ⟨k8, c8⟩ := hk.at_ 8 (by omega)
  obtain ⟨k9, c9⟩ := hk.at_ 9 (by omega)
  obtain ⟨k10, c10⟩ := hk.at_ 10 (by omega)
  obtain ⟨k11, c11⟩ := hk.at_ 11 (by omega)
  obtain ⟨k12, c12⟩ := hk.at_ 12 (by omega)
  obtain ⟨k13, c13⟩ := hk.at_ 13 (by omega)
  obtain ⟨k14, c14⟩ := hk.at_ 14 (by omega)
  obtain ⟨k15, c15⟩ := hk.at_ 15 (by omega)
  obtain ⟨k16, c16⟩ := hk.at_ 16 (by omega)
  have hix := fun i hi => kw_index k0 k1 k2 k3 k4 k5 k6 k7 k8 k9 k10 k11 k12 k13 k14 k15 k16 i hi w
  have HIX := Lib.hid hix
  clear hix
  have hlt := hk.lt
  clear hk
  go_enter Tryz.func107, Tryz.ntmps107
  go_wp2_with fail
  clear c0 c1 c2 c3 c4 c5 c6 c7 c8 c9 c10 c11 c12 c13 c14 c15 c16
  go_loop [6] (fun i => ∃ k : Nat, k ≤ 17 ∧ i = .int .i64 k) (fun i => 17 - (intOf i).toNat)
  case atStart => exact ⟨0, Nat.zero_le _, rfl⟩
  case round =>
    obtain ⟨k, hk, rfl⟩ := hrel
    by_cases hlt : k < 17
    · obtain ⟨x, hx⟩ := HIX.out k hlt
      cases hq : (s.toList == x.toList) with
      | true =>
        go_wp2_with fail
        go_ret
        exact ⟨_, rfl, rfl⟩
      | false =>
        go_wp2_with fail
        go_round
        case rel => exact ⟨k + 1, by omega, by go_num⟩
        case measure => simp [intOf]; omega
    · go_wp2_with fail
      go_ret
      exact ⟨_, rfl, rfl⟩

/-! ### Ident -/
def IdentR (s : ByteArray) (w : World) (e : Ending) (w' : World) : Prop := ∃ b : Bool, e = .returned (.bool b) ∧ w = w' ∧ (b = true → s.toList.isEmpty = false)
set_option maxHeartbeats 1000000 in
theorem ident_some (s : ByteArray) (w : World) (hs : s.size ≤ 9223372036854775807) (hk : KwAt w) : Calls Tryz.prog 86 #[.string s] w (IdentR s w) := by
  cases h0 : s.toList.isEmpty with
  | true =>
    go_enter Tryz.func86, Tryz.ntmps86
    go_wp2_with fail
    go_ret
    exact ⟨_, rfl, rfl, fun h => by cases h⟩
  | false =>
    have hsz : 0 < s.size := by
      rcases Nat.eq_zero_or_pos s.size with h | h
      · rw [ByteArray.toList_eq] at h0
        have : s.data = #[] := Array.eq_empty_of_size_eq_zero h
        rw [this] at h0
        cases h0
      · exact h
    by_cases h32 : 32 < s.size
    · go_enter Tryz.func86, Tryz.ntmps86
      go_wp2_with fail
      go_ret
      exact ⟨_, rfl, rfl, fun h => by cases h⟩
    · go_enter Tryz.func86, Tryz.ntmps86
      go_wp2_with fail
      refine (letter_any _ _).mono ?_
      rintro e w1 ⟨rfl, rfl⟩
      cases letterB _ with
      | false =>
        go_wp2_with fail
        go_ret
        exact ⟨_, rfl, rfl, fun h => by cases h⟩
      | true =>
        go_wp2_with fail
        refine (span_some s _ hs).mono ?_
        rintro e w1 ⟨n, rfl, rfl⟩
        cases hq : (n == (s.size : Int)) with
        | false =>
          go_wp2_with fail
          go_ret
          exact ⟨_, rfl, rfl, fun _ => h0⟩
        | true =>
          go_wp2_with fail
          refine (keyword_some s _ hk).mono ?_
          rintro e w1 ⟨b, rfl, rfl⟩
          go_wp2_with fail
          go_ret
          exact ⟨_, rfl, rfl, fun _ => h0⟩
end Go.Proofs.YtlcdnkloijehjaaGreatDoor
