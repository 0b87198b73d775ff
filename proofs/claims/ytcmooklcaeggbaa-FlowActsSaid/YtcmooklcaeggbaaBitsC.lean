/-
  Contracts of package bits: Of.
-/
import Derived.Test.YtcmooklcaeggbaaBitsB
namespace Go.Proofs.Ytcmooklcaeggbaa
open Go.RowKit
set_option linter.unusedVariables false

theorem wordTy : ElemTy Try.prog 42 62 1 8 (.int .u64 0) := ⟨Try.underlying42, by kernel_rfl, rfl, by omega⟩

def OfR (l : List Int) (w' : World) (v : Value) : Prop := ∃ ws, wordsOk ws ∧ ws.length ≤ 1024 ∧ BitsV w' v ws ∧ ∀ x : Nat, bitAt ws x = decide ((x : Int) ∈ l)

theorem wordsFor_take_le {l : List Int} (h : ∀ x ∈ l, 0 ≤ x ∧ x < 65536) : ∀ k, wordsFor (l.take k) ≤ 1024
  | 0 => by simp [wordsFor]
  | k + 1 => by
    have ih := wordsFor_take_le h k
    rcases Nat.lt_or_ge k l.length with hk | hk
    · rw [take_snoc hk, wordsFor_snoc]
      have h2 := h l[k] (by simp)
      omega
    · rw [List.take_of_length_le (by omega)]; rwa [List.take_of_length_le (by omega)] at ih
theorem wordsFor_mem {l : List Int} : ∀ (k : Nat) (i : Nat) (hi : i < l.length), i < k → l[i].toNat / 64 + 1 ≤ wordsFor (l.take k)
  | 0, i, hi, h => by omega
  | k + 1, i, hi, h => by
    rcases Nat.lt_or_ge k l.length with hk | hk
    · rw [take_snoc hk, wordsFor_snoc]
      by_cases e : i = k
      · subst e; omega
      · have := wordsFor_mem k i hi (by omega); omega
    · rw [List.take_of_length_le (by omega)]
      have := wordsFor_mem k i hi (by omega)
      rwa [List.take_of_length_le (by omega)] at this
theorem getD_replicate (n i : Nat) : (List.replicate n 0).getD i 0 = 0 := by
  rw [List.getD_eq_getElem?_getD, List.getElem?_replicate]; split <;> rfl
theorem wordsOk_orBit {ws : List Nat} (h : wordsOk ws) (x : Int) : wordsOk (orBit ws x) := fun i => by
  unfold orBit
  rw [List.getD_eq_getElem?_getD, List.getElem?_set]
  split
  · split
    · have h1 : x.toNat % 64 < 64 := by omega
      have h2 : (2 : Nat) ^ (x.toNat % 64) < 2 ^ 64 := Nat.pow_lt_pow_right (by omega) h1
      exact Nat.or_lt_two_pow (n := 64) (h _) h2
    · simp
  · have := h i; rwa [List.getD_eq_getElem?_getD] at this
theorem wordsOk_orBits {ws : List Nat} (h : wordsOk ws) (l : List Int) : wordsOk (orBits ws l) := by
  induction l generalizing ws with
  | nil => exact h
  | cons x r ih => exact ih (wordsOk_orBit h x)
theorem bitAt_orBit {ws : List Nat} {x : Int} (hx : 0 ≤ x) (h : x.toNat / 64 < ws.length) (y : Nat) : bitAt (orBit ws x) y = (bitAt ws y || decide ((y : Int) = x)) := by
  unfold bitAt orBit
  rw [List.getD_eq_getElem?_getD, List.getElem?_set]
  by_cases e : x.toNat / 64 = y / 64
  · rw [if_pos e, if_pos h, ← e, Option.getD_some, Nat.testBit_or, Nat.testBit_two_pow]
    congr 1
    rw [decide_eq_decide]
    omega
  · rw [if_neg e, List.getD_eq_getElem?_getD]
    rw [decide_eq_false (by omega), Bool.or_false]
theorem bitAt_orBits {ws : List Nat} {l : List Int} (hx : ∀ x ∈ l, 0 ≤ x) (h : ∀ x ∈ l, x.toNat / 64 < ws.length) (y : Nat) : bitAt (orBits ws l) y = (bitAt ws y || decide ((y : Int) ∈ l)) := by
  induction l generalizing ws with
  | nil => simp [orBits]
  | cons x r ih =>
    have e : orBits ws (x :: r) = orBits (orBit ws x) r := rfl
    have hlen : (orBit ws x).length = ws.length := by unfold orBit; rw [List.length_set]
    rw [e, ih (fun z hz => hx z (by simp [hz])) (fun z hz => by rw [hlen]; exact h z (by simp [hz])), bitAt_orBit (hx x (by simp)) (h x (by simp)), Bool.or_assoc]
    congr 1
    rw [← Bool.decide_or, decide_eq_decide]
    simp
theorem wordsOk_zero (n : Nat) : wordsOk (List.replicate n 0) := fun i => by rw [getD_replicate]; omega
theorem or_word (W j : Nat) (hW : W < 18446744073709551616) (hj : j < 64) : bits .or .u64 (W : Int) (IntKind.u64.wrap (2 ^ j)) = ((W ||| 2 ^ j : Nat) : Int) := by
  have h2 : (2 : Nat) ^ j < 2 ^ 64 := Nat.pow_lt_pow_right (by omega) hj
  have h3 : ((2 ^ j : Nat) : Int) < 18446744073709551616 := Int.ofNat_lt.2 h2
  have e : IntKind.u64.wrap (2 ^ j) = ((2 ^ j : Nat) : Int) := by
    rw [show ((2 : Int) ^ j) = ((2 ^ j : Nat) : Int) by rw [Int.natCast_pow]; rfl, IntKind.wrap_u64]
    exact Int.emod_eq_of_lt (Int.natCast_nonneg _) h3
  rw [e]
  exact u64_or_nat _ _ hW h2

set_option maxHeartbeats 1000000 in
theorem bitsOf_any (A : Option Addr) (c : Nat) (l : List Int) (w : World) (hl : l.length ≤ 9223372036854775807) (hv : Hid (∀ x ∈ l, 0 ≤ x ∧ x < 65536)) (hs : Sl Lay.int w A l) :
    Calls Try.prog 26 #[.slice A l.length c] w fun e w' => (∃ v, e = .returned (.tuple #[v, .int .i64 0]) ∧ OfR l w' v) ∧ Below w.heap.size w w' := by
  go_enter Try.func26, Try.ntmps26
  go_wp2
  go_loop [4, 12] (fun m i => ∃ k : Nat, k ≤ l.length ∧ i = .int .i64 k ∧ m = .int .i64 (wordsFor (l.take k) : Nat)) (fun _ i => l.length - (intOf i).toNat)
  case atStart => exact ⟨0, Nat.zero_le _, rfl, rfl⟩
  case round =>
    obtain ⟨k, hk, rfl, rfl⟩ := hrel
    by_cases hlt : k < l.length
    · obtain ⟨b, o, rfl, hb, c0⟩ := hs.int_at hlt
      obtain ⟨x0, x1⟩ := hv.out l[k] (by simp)
      have HW := Lib.hid (wordsFor_snoc (l.take k) l[k])
      rw [← take_snoc hlt] at HW
      have hwl := wordsFor_take_le hv.out k
      go_wp2
      go_round
      case rel => exact ⟨k + 1, by omega, by go_num, by rw [HW.out]; congr 1; split <;> omega⟩
      case measure => simp [intOf]; omega
    · have hkl : k = l.length := by omega
      subst hkl
      have hwl := wordsFor_take_le hv.out l.length
      rw [List.take_length] at hwl ⊢
      have HM := Lib.hid (fun i hi => wordsFor_mem (l := l) l.length i hi hi)
      rw [List.take_length] at HM
      generalize hgn : wordsFor l = n at *
      have hmk := fun W => wordTy.make .i64 .i64 n (by omega) (by omega) W
      clear hgn
      go_wp2
      go_loopw [29] (fun i wr => ∃ k : Nat, k ≤ l.length ∧ i = .int .i64 k ∧ Own (fun x => [cellWord x]) 1 w.heap.size 62 wr (.slice (some ⟨w.heap.size, 0, none⟩) n n) (orBits (List.replicate n 0) (l.take k)) ∧ Below w.heap.size w wr) (fun i _ => l.length - (intOf i).toNat)
      case atStart => exact ⟨0, Nat.zero_le _, rfl, Own.made _ _ _ _ (by simp [orBits]) (Nat.le_refl _) (by unfold maxLen; omega) (by simp [orBits, cellWord]), (by repeat (first | assumption | exact Below.refl _ _ | apply bw_alloc | apply bw_drew | apply bw_drewN | apply bw_later | apply bw_step))⟩
      case round =>
        obtain ⟨k, hk, rfl, hown, hbw⟩ := hrel
        have HR := Lib.hid (orBits_len (List.replicate n 0) (l.take k))
        rw [List.length_replicate] at HR
        have HO := Lib.hid (wordsOk_orBits (wordsOk_zero n) (l.take k))
        by_cases hlt : k < l.length
        · have HS := Lib.hid (orBits_snoc (List.replicate n 0) (l.take k) l[k])
          rw [← take_snoc hlt] at HS
          generalize hws : orBits (List.replicate n 0) (l.take k) = ws at *
          clear hws
          obtain ⟨b, o, rfl, hb, c0⟩ := (hs.mono hbw).int_at hlt
          obtain ⟨x0, x1⟩ := hv.out l[k] (by simp)
          have hj : (l[k] / 64).toNat < ws.length := by have := HM.out k hlt; have := HR.out; omega
          have hjn : (l[k] / 64).toNat < n := by have := HR.out; omega
          have d0 := hown.at1 HR.out hj
          have d1 := hown.free1 HR.out (l[k] / 64).toNat
          unfold cellWord at d0
          have h64 : l[k] / 64 < n := by omega
          have HW := Lib.hid (or_word ws[(l[k] / 64).toNat] (l[k] % 64).toNat (wordsOk_at HO.out hj) (by omega))
          have HB : Hid (orBit ws l[k] = ws.set (l[k] / 64).toNat (ws[(l[k] / 64).toNat] ||| 2 ^ (l[k] % 64).toNat)) := by
            show _ = _
            unfold orBit
            rw [show l[k].toNat / 64 = (l[k] / 64).toNat by omega, show l[k].toNat % 64 = (l[k] % 64).toNat by omega, List.getD_eq_getElem?_getD, List.getElem?_eq_getElem hj, Option.getD_some]
          go_wp2
          go_roundw
          case rel => exact ⟨k + 1, by omega, by go_num, by rw [HS.out, HB.out, HW.out]; exact hown.set1 HR.out _ _, bw_setCell hbw (Nat.le_refl _)⟩
          case measure => simp [intOf]; omega
        · have hkl : k = l.length := by omega
          subst hkl
          rw [List.take_length] at hown HR HO
          have HA := Lib.hid (fun y => bitAt_orBits (ws := List.replicate n 0) (l := l) (fun x hx => (hv.out x hx).1) (fun x hx => by
            obtain ⟨i, hi, e⟩ := List.getElem_of_mem hx
            have := HM.out i hi
            rw [e] at this
            rw [List.length_replicate]; omega) y)
          generalize hws : orBits (List.replicate n 0) l = ws at *
          clear hws
          obtain ⟨A', c', e1, e2, hsl⟩ := Own.sl (L := Lay.word) hown rfl (fun x => rfl)
          simp only [Value.slice.injEq] at e1
          obtain ⟨rfl, -, rfl⟩ := e1
          have HR2 := HR.out
          subst HR2
          clear hmk
          go_wp2_with fail
          refine (bitsNormal_any _ _ ws _ (by omega) (Nat.le_refl _) hsl).mono ?_
          rintro e w' ⟨⟨v, rfl, m, hm, hbv⟩, rfl⟩
          go_wp2_with fail
          go_ret2
          refine ⟨⟨_, rfl, ws.take m, IsNorm.ok HO.out, by rw [List.length_take]; omega, hbv, fun x => ?_⟩, hbw⟩
          rw [hm.bit, HA.out]
          unfold bitAt
          rw [getD_replicate]
          simp
end Go.Proofs.Ytcmooklcaeggbaa
