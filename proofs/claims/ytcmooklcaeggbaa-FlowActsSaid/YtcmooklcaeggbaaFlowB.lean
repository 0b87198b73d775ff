/-
  Contracts of chapter 29: slices.Equal, Same, Check.
-/
import Derived.Test.YtcmooklcaeggbaaFlowA
namespace Go.Proofs.Ytcmooklcaeggbaa
open Go.RowKit
set_option linter.unusedVariables false

set_option maxHeartbeats 400000 in
theorem slicesEqual_any (A B : Option Addr) (cA cB : Nat) (f g : List (Int × Int)) (w : World) (hf : Sl Lay.int2 w A f) (hg : Sl Lay.int2 w B g) (hnf : f.length ≤ 9223372036854775807) (hng : g.length ≤ 9223372036854775807) :
    Calls Try.prog 34 #[.slice A f.length cA, .slice B g.length cB] w fun e w' => e = .returned (.bool (sameB f g)) ∧ Below w.heap.size w w' := by
  have hpn := pair_neq
  have hpg := pairGuard
  by_cases hl : f.length = g.length
  · have HL := Lib.hid hl
    have h0 : ((f.length : Int) != (g.length : Int)) = false := by simp [hl]
    clear hl
    go_enter Try.func34, Try.ntmps34
    go_wp2
    go_loopw [13] (fun i wr => ∃ k : Nat, k ≤ f.length ∧ i = .int .i64 k ∧ f.take k = g.take k ∧ Below w.heap.size w wr) (fun i _ => f.length - (intOf i).toNat)
    case atStart => exact ⟨0, Nat.zero_le _, rfl, by simp, Below.refl _ _⟩
    case round =>
      obtain ⟨k, hk, rfl, ht, hbw⟩ := hrel
      have HT := Lib.hid ht
      clear ht
      by_cases hlt : k < f.length
      · have hlg : k < g.length := by have := HL.out; omega
        obtain ⟨b, o, rfl, hb, c0, c1⟩ := (hf.mono hbw).int2_at hlt
        obtain ⟨b', o', rfl, hb', c0', c1'⟩ := (hg.mono hbw).int2_at hlg
        by_cases he : f[k] = g[k]
        · have e1 : (!(f[k].1 == g[k].1 && f[k].2 == g[k].2)) = false := by simp [he]
          have HE := Lib.hid he
          clear he
          go_wp2
          refine wp_region_later (by kernel_rfl) (by kernel_rfl) ?_
          repeat (go_big_quiet_step (fail))
          refine wpQuiet_nil ?_
          rintro _ ⟨x, rfl⟩
          go_wp2
          go_roundw
          case rel => exact ⟨k + 1, by omega, by go_num, take_succ_eq hlt hlg HT.out HE.out, (by repeat (first | assumption | exact Below.refl _ _ | apply bw_alloc | apply bw_drew | apply bw_drewN | apply bw_later | apply bw_step))⟩
          case measure => simp [intOf]; omega
        · have e1 : (!(f[k].1 == g[k].1 && f[k].2 == g[k].2)) = true := by
            simp only [Bool.not_eq_true', Bool.and_eq_false_iff, beq_eq_false_iff_ne]
            by_cases h1 : f[k].1 = g[k].1
            · exact Or.inr fun h2 => he (Prod.ext h1 h2)
            · exact Or.inl h1
          have HE := Lib.hid he
          clear he
          go_wp2
          refine wp_region_later (by kernel_rfl) (by kernel_rfl) ?_
          repeat (go_big_quiet_step (fail))
          refine wpQuiet_nil ?_
          rintro _ ⟨x, rfl⟩
          go_wp2
          go_ret
          exact ⟨by rw [sameB_at hlt hlg HE.out]; rfl, (by repeat (first | assumption | exact Below.refl _ _ | apply bw_alloc | apply bw_drew | apply bw_drewN | apply bw_later | apply bw_step))⟩
      · go_wp2
        go_ret
        exact ⟨by rw [sameB_all hlt HL.out HT.out]; rfl, (by repeat (first | assumption | exact Below.refl _ _ | apply bw_alloc | apply bw_drew | apply bw_drewN | apply bw_later | apply bw_step))⟩
  · have h0 : ((f.length : Int) != (g.length : Int)) = true := bne_iff_ne.2 (by omega)
    have HL := Lib.hid hl
    clear hl
    go_enter Try.func34, Try.ntmps34
    go_wp2
    go_ret
    exact ⟨by rw [sameB_len HL.out]; rfl, (by repeat (first | assumption | exact Below.refl _ _ | apply bw_alloc | apply bw_drew | apply bw_drewN | apply bw_later | apply bw_step))⟩

set_option maxHeartbeats 400000 in
theorem flowSame_any (A B : Option Addr) (cA cB : Nat) (f g : List (Int × Int)) (w : World) (hf : Sl Lay.int2 w A f) (hg : Sl Lay.int2 w B g) (hnf : f.length ≤ 9223372036854775807) (hng : g.length ≤ 9223372036854775807) :
    Calls Try.prog 17 #[.slice A f.length cA, .slice B g.length cB] w fun e w' => e = .returned (.bool (sameB f g)) ∧ Below w.heap.size w w' := by
  go_enter Try.func17, Try.ntmps17
  go_wp2_with fail
  refine (slicesEqual_any A B cA cB f g _ hf hg hnf hng).mono ?_
  rintro e w' ⟨rfl, hb⟩
  go_wp2_with fail
  go_ret
  exact ⟨rfl, hb⟩

/-! ### Check -/

/-- The first of g 0, g 1, .. that is something. -/
def firstOf (g : Nat → Option Int) : Nat → Option Int
  | 0 => none
  | n + 1 => match firstOf g n with
    | some e => some e
    | none => g n
theorem firstOf_none {g : Nat → Option Int} : ∀ {n : Nat}, (∀ i, i < n → g i = none) → firstOf g n = none
  | 0, _ => rfl
  | n + 1, h => by unfold firstOf; rw [firstOf_none fun i hi => h i (by omega)]; exact h n (by omega)
theorem firstOf_at {g : Nat → Option Int} {k : Nat} {e : Int} (h : ∀ i, i < k → g i = none) (hk : g k = some e) : ∀ {n : Nat}, k < n → firstOf g n = some e
  | 0, h0 => by omega
  | n + 1, hn => by
    unfold firstOf
    by_cases e1 : k = n
    · subst e1; rw [firstOf_none h]; exact hk
    · rw [firstOf_at h hk (by omega)]

def pairAt (f : List (Int × Int)) (i : Nat) : Int × Int := f.getD i (0, 0)
theorem pairAt_of {f : List (Int × Int)} {i : Nat} (h : i < f.length) : pairAt f i = f[i] := by simp [pairAt, h]
def badAt (f : List (Int × Int)) (n : Int) (i : Nat) : Option Int :=
  if fitsB (pairAt f i) n then (if 0 < i ∧ ltP (pairAt f (i - 1)) (pairAt f i) = false then some 13 else none) else some 4
def checkE (f : List (Int × Int)) (n : Int) : Int :=
  if n < 1 ∨ 1024 < n then 4 else if 8192 < f.length then 3 else match firstOf (badAt f n) f.length with
    | some e => e
    | none => if f.head? = some (0, 0) then 0 else 1
theorem checkE_range {f : List (Int × Int)} {n : Int} (h : n < 1 ∨ 1024 < n) : checkE f n = 4 := by unfold checkE; rw [if_pos h]
theorem checkE_long {f : List (Int × Int)} {n : Int} (h : ¬ (n < 1 ∨ 1024 < n)) (h2 : 8192 < f.length) : checkE f n = 3 := by unfold checkE; rw [if_neg h, if_pos h2]
theorem checkE_bad {f : List (Int × Int)} {n : Int} (h : ¬ (n < 1 ∨ 1024 < n)) (h2 : ¬ 8192 < f.length) {k : Nat} {e : Int} (hg : ∀ i, i < k → badAt f n i = none) (hk : badAt f n k = some e) (hl : k < f.length) : checkE f n = e := by
  unfold checkE; rw [if_neg h, if_neg h2, firstOf_at hg hk hl]
theorem checkE_end {f : List (Int × Int)} {n : Int} (h : ¬ (n < 1 ∨ 1024 < n)) (h2 : ¬ 8192 < f.length) (hg : ∀ i, i < f.length → badAt f n i = none) : checkE f n = if f.head? = some (0, 0) then 0 else 1 := by
  unfold checkE; rw [if_neg h, if_neg h2, firstOf_none hg]
theorem badAt_range {f : List (Int × Int)} {n : Int} {i : Nat} (hi : i < f.length) (h : fitsB f[i] n = false) : badAt f n i = some 4 := by unfold badAt; rw [pairAt_of hi, h]; rfl
theorem badAt_order {f : List (Int × Int)} {n : Int} {i : Nat} (hi : i < f.length) (h0 : 0 < i) (h : fitsB f[i] n = true) (hl : ltP (f[i - 1]'(by omega)) f[i] = false) : badAt f n i = some 13 := by
  unfold badAt; rw [pairAt_of hi, pairAt_of (i := i - 1) (by omega), h, if_pos rfl, if_pos ⟨h0, hl⟩]
theorem badAt_none {f : List (Int × Int)} {n : Int} {i : Nat} (hi : i < f.length) (h : fitsB f[i] n = true) (hl : ∀ h0 : 0 < i, ltP (f[i - 1]'(by omega)) f[i] = true) : badAt f n i = none := by
  unfold badAt
  rw [pairAt_of hi, pairAt_of (i := i - 1) (by omega), h, if_pos rfl, if_neg]
  rintro ⟨h0, h1⟩
  rw [hl h0] at h1
  cases h1
theorem badAt_inv {f : List (Int × Int)} {n : Int} {i : Nat} (hi : i < f.length) (h : badAt f n i = none) : fitsB f[i] n = true ∧ ∀ h0 : 0 < i, ltP (f[i - 1]'(by omega)) f[i] = true := by
  unfold badAt at h
  rw [pairAt_of hi, pairAt_of (i := i - 1) (by omega)] at h
  split at h
  · rename_i h1
    refine ⟨h1, fun h0 => ?_⟩
    split at h
    · cases h
    · rename_i h2
      cases hx : ltP (f[i - 1]'(by omega)) f[i] with
      | true => rfl
      | false => exact absurd ⟨h0, hx⟩ h2
  · cases h
theorem lt_succ_none {g : Nat → Option Int} {k : Nat} (h : ∀ i, i < k → g i = none) (hk : g k = none) : ∀ i, i < k + 1 → g i = none := fun i hi => by
  rcases Nat.lt_or_ge i k with h1 | h1
  · exact h i h1
  · rw [show i = k by omega]; exact hk

end Go.Proofs.Ytcmooklcaeggbaa
