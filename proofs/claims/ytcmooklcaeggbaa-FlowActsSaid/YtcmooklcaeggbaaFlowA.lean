/-
  Contracts of the small functions of chapter 29: comparisons, the order of pairs, equality of lists, Check.
-/
import Derived.Test.YtcmooklcaeggbaaProg
import Derived.Test.YtcmooklcaeggbaaLib
namespace Go.Proofs.Ytcmooklcaeggbaa
open Go.RowKit
set_option linter.unusedVariables false

def cmpI (a b : Int) : Int := if a < b then -1 else if b < a then 1 else 0
theorem cmpI_lt {a b : Int} (h : a < b) : cmpI a b = -1 := by simp [cmpI, h]
theorem cmpI_eq (a : Int) : cmpI a a = 0 := by simp [cmpI]
theorem cmpI_gt {a b : Int} (h : b < a) : cmpI a b = 1 := by unfold cmpI; rw [if_neg (by omega), if_pos h]
def orI (a b : Int) : Int := if a = 0 then b else a
def cmpP (p q : Int × Int) : Int := orI (cmpI p.1 q.1) (cmpI p.2 q.2)
def ltP (p q : Int × Int) : Bool := decide (p.1 < q.1) || (decide (p.1 = q.1) && decide (p.2 < q.2))
theorem cmpP_neg (p q : Int × Int) : decide (cmpP p q ≥ 0) = !ltP p q := by
  obtain ⟨a, b⟩ := p
  obtain ⟨c, d⟩ := q
  unfold cmpP ltP
  dsimp only
  rcases Int.lt_trichotomy a c with h | h | h
  · rw [cmpI_lt h]; simp [orI, h]
  · subst h
    rw [cmpI_eq]
    rcases Int.lt_trichotomy b d with k | k | k
    · rw [cmpI_lt k]; simp [orI, k]
    · subst k; rw [cmpI_eq]; simp [orI]
    · rw [cmpI_gt k]; simp [orI]; omega
  · rw [cmpI_gt h]; simp [orI]; omega
def fitsB (p : Int × Int) (n : Int) : Bool := decide (0 ≤ p.1) && decide (p.1 < n) && decide (0 ≤ p.2) && decide (p.2 < n)

section
set_option maxHeartbeats 400000 in
theorem cmpCompare_any (a b : Int) (w : World) :
    Calls Try.prog 46 #[.int .i64 a, .int .i64 b] w fun e w' => e = .returned (.int .i64 (cmpI a b)) ∧ w = w' := by
  rcases Int.lt_trichotomy a b with h | h | h
  · go_enter Try.func46, Try.ntmps46
    go_wp2
    go_ret
    exact ⟨by rw [cmpI_lt h]; rfl, rfl⟩
  · subst h
    go_enter Try.func46, Try.ntmps46
    go_wp2
    go_ret
    exact ⟨by rw [cmpI_eq]; rfl, rfl⟩
  · go_enter Try.func46, Try.ntmps46
    go_wp2
    go_ret
    exact ⟨by rw [cmpI_gt h]; rfl, rfl⟩

set_option maxHeartbeats 400000 in
theorem cmpOr_any (a b : Int) (g : Nat) (w : World) (h0 : w.cell? ⟨g, 0, none⟩ = some (.int .i64 a)) (h1 : w.cell? ⟨g, 1, none⟩ = some (.int .i64 b)) :
    Calls Try.prog 45 #[.slice (some ⟨g, 0, none⟩) 2 2] w fun e w' => e = .returned (.int .i64 (orI a b)) ∧ w = w' := by
  by_cases ha : a = 0
  · subst ha
    by_cases hb : b = 0
    · subst hb
      go_enter Try.func45, Try.ntmps45
      go_wp2
      refine wp_loop_rounds 3 ?_
      repeat (rw [rounds_succ]; go_wp2)
      go_ret
      exact ⟨by simp [orI], rfl⟩
    · have hb' : (b != 0) = true := by simpa using hb
      go_enter Try.func45, Try.ntmps45
      go_wp2
      refine wp_loop_rounds 2 ?_
      repeat (rw [rounds_succ]; go_wp2)
      go_ret
      exact ⟨by simp [orI], rfl⟩
  · have ha' : (a != 0) = true := by simpa using ha
    have e : orI a b = a := if_neg ha
    have E := Lib.hid e
    clear e
    go_enter Try.func45, Try.ntmps45
    go_wp2
    refine wp_loop_rounds 1 ?_
    repeat (rw [rounds_succ]; go_wp2)
    go_ret
    exact ⟨by rw [E.out]; rfl, rfl⟩

set_option maxHeartbeats 400000 in
theorem flowCompare_any (a b c d : Int) (w : World) :
    Calls Try.prog 31 #[.agg #[.int .i64 a, .int .i64 b], .agg #[.int .i64 c, .int .i64 d]] w fun e w' => e = .returned (.int .i64 (cmpP (a, b) (c, d))) ∧ Below w.heap.size w w' := by
  go_enter Try.func31, Try.ntmps31
  go_wp2
  refine wp_region_later_tail 10 (by kernel_rfl) (by kernel_rfl) ?_
  simp only [List.take_succ_cons, List.take_zero, List.drop_succ_cons, List.drop_zero]
  repeat (go_big_quiet_step ((go_at_call 46; exact Calls.later_same (cmpCompare_any _ _ _))))
  refine wpQuiet_nil ?_
  rintro _ ⟨x, rfl⟩
  go_wp2_with fail
  refine (cmpOr_any (cmpI a c) (cmpI b d) _ _ (by simp) (by simp)).mono ?_
  rintro e w' ⟨rfl, rfl⟩
  go_wp2_with fail
  go_ret
  exact ⟨rfl, (by repeat (first | assumption | exact Below.refl _ _ | apply bw_alloc | apply bw_drew | apply bw_drewN | apply bw_later | apply bw_step))⟩
end

set_option maxHeartbeats 400000 in
theorem refFits_any (a b n : Int) (w : World) :
    Calls Try.prog 32 #[.agg #[.int .i64 a, .int .i64 b], .int .i64 n] w fun e w' => e = .returned (.bool (fitsB (a, b) n)) ∧ Below w.heap.size w w' := by
  go_enter Try.func32, Try.ntmps32
  go_wp2
  all_goals (go_ret; refine ⟨?_, (by repeat (first | assumption | exact Below.refl _ _ | apply bw_alloc | apply bw_drew | apply bw_drewN | apply bw_later | apply bw_step))⟩; simp [fitsB, *])
  all_goals omega

set_option maxHeartbeats 400000 in
theorem refBefore_any (a b c d : Int) (w : World) :
    Calls Try.prog 33 #[.agg #[.int .i64 a, .int .i64 b], .agg #[.int .i64 c, .int .i64 d]] w fun e w' => e = .returned (.bool (ltP (a, b) (c, d))) ∧ Below w.heap.size w w' := by
  go_enter Try.func33, Try.ntmps33
  go_wp2
  all_goals (go_ret; refine ⟨?_, (by repeat (first | assumption | exact Below.refl _ _ | apply bw_alloc | apply bw_drew | apply bw_drewN | apply bw_later | apply bw_step))⟩; simp [ltP, *])
  all_goals omega

theorem pairGuard : Try.prog.eqGuardType Try.prog.depth 46 = false := by kernel_rfl
theorem pair_neq (a b c d : Int) (w : World) : (binOp .neq 46 (.agg #[.int .i64 a, .int .i64 b]) (.agg #[.int .i64 c, .int .i64 d])).run Try.prog w = .ok (.bool (!(a == c && b == d))) w := by
  by_cases h1 : a = c <;> by_cases h2 : b = d <;> simp [go_sem, h1, h2]
theorem pair_eql (a b c d : Int) (w : World) : (binOp .eql 46 (.agg #[.int .i64 a, .int .i64 b]) (.agg #[.int .i64 c, .int .i64 d])).run Try.prog w = .ok (.bool (a == c && b == d)) w := by
  by_cases h1 : a = c <;> by_cases h2 : b = d <;> simp [go_sem, h1, h2]

/-- Equality of lists, as a Bool of its own. -/
def sameB {α : Type} [DecidableEq α] (f g : List α) : Bool := decide (f = g)
theorem sameB_len {α : Type} [DecidableEq α] {f g : List α} (h : f.length ≠ g.length) : sameB f g = false := decide_eq_false fun e => h (by rw [e])
theorem sameB_at {α : Type} [DecidableEq α] {f g : List α} {k : Nat} (hk : k < f.length) (hk' : k < g.length) (h : f[k] ≠ g[k]) : sameB f g = false := decide_eq_false fun e => by subst e; exact h rfl
theorem sameB_all {α : Type} [DecidableEq α] {f g : List α} {k : Nat} (hk : ¬ k < f.length) (hl : f.length = g.length) (h : f.take k = g.take k) : sameB f g = true := by
  rw [List.take_of_length_le (by omega), List.take_of_length_le (by omega)] at h
  exact decide_eq_true h
theorem take_succ_eq {α : Type} {f g : List α} {k : Nat} (hk : k < f.length) (hk' : k < g.length) (h : f.take k = g.take k) (he : f[k] = g[k]) : f.take (k + 1) = g.take (k + 1) := by
  rw [List.take_succ_eq_append_getElem hk, List.take_succ_eq_append_getElem hk', h, he]


set_option maxHeartbeats 400000 in
theorem refSame_any (A B : Option Addr) (cA cB : Nat) (f g : List (Int × Int)) (w : World) (hf : Sl Lay.int2 w A f) (hg : Sl Lay.int2 w B g) (hnf : f.length ≤ 9223372036854775807) (hng : g.length ≤ 9223372036854775807) :
    Calls Try.prog 13 #[.slice A f.length cA, .slice B g.length cB] w fun e w' => e = .returned (.bool (sameB f g)) ∧ Below w.heap.size w w' := by
  have hpn := pair_neq
  have hpg := pairGuard
  by_cases hl : f.length = g.length
  · have HL := Lib.hid hl
    have h0 : ((f.length : Int) != (g.length : Int)) = false := by simp [hl]
    clear hl
    go_enter Try.func13, Try.ntmps13
    go_wp2
    go_loopw [5] (fun i wr => ∃ k : Nat, k ≤ f.length ∧ i = .int .i64 k ∧ f.take k = g.take k ∧ Below w.heap.size w wr) (fun i _ => f.length - (intOf i).toNat)
    case atStart => exact ⟨0, Nat.zero_le _, rfl, by simp, Below.refl _ _⟩
    case round =>
      obtain ⟨k, hk, rfl, ht, hbw⟩ := hrel
      have HT := Lib.hid ht
      clear ht
      by_cases hlt : k < f.length
      · have hlg : k < g.length := by have := HL.out; omega
        obtain ⟨b, o, rfl, hb, c0, c1⟩ := (hf.mono hbw).int2_at hlt
        obtain ⟨b', o', rfl, hb', c0', c1'⟩ := (hg.mono hbw).int2_at hlg
        by_cases he : f[k] = g[k]
        · have e1 : (!(f[k].1 == g[k].1 && f[k].2 == g[k].2)) = false := by simp [he]
          have HE := Lib.hid he
          clear he
          go_wp2
          refine wp_region_later (by kernel_rfl) (by kernel_rfl) ?_
          repeat (go_big_quiet_step (fail))
          refine wpQuiet_nil ?_
          rintro _ ⟨x, rfl⟩
          go_wp2
          go_roundw
          case rel => exact ⟨k + 1, by omega, by go_num, take_succ_eq hlt hlg HT.out HE.out, (by repeat (first | assumption | exact Below.refl _ _ | apply bw_alloc | apply bw_drew | apply bw_drewN | apply bw_later | apply bw_step))⟩
          case measure => simp [intOf]; omega
        · have e1 : (!(f[k].1 == g[k].1 && f[k].2 == g[k].2)) = true := by
            simp only [Bool.not_eq_true', Bool.and_eq_false_iff, beq_eq_false_iff_ne]
            by_cases h1 : f[k].1 = g[k].1
            · exact Or.inr fun h2 => he (Prod.ext h1 h2)
            · exact Or.inl h1
          have HE := Lib.hid he
          clear he
          go_wp2
          refine wp_region_later (by kernel_rfl) (by kernel_rfl) ?_
          repeat (go_big_quiet_step (fail))
          refine wpQuiet_nil ?_
          rintro _ ⟨x, rfl⟩
          go_wp2
          go_ret
          exact ⟨by rw [sameB_at hlt hlg HE.out]; rfl, (by repeat (first | assumption | exact Below.refl _ _ | apply bw_alloc | apply bw_drew | apply bw_drewN | apply bw_later | apply bw_step))⟩
      · go_wp2
        go_ret
        exact ⟨by rw [sameB_all hlt HL.out HT.out]; rfl, (by repeat (first | assumption | exact Below.refl _ _ | apply bw_alloc | apply bw_drew | apply bw_drewN | apply bw_later | apply bw_step))⟩
  · have h0 : ((f.length : Int) != (g.length : Int)) = true := bne_iff_ne.2 (by omega)
    have HL := Lib.hid hl
    clear hl
    go_enter Try.func13, Try.ntmps13
    go_wp2
    go_ret
    exact ⟨by rw [sameB_len HL.out]; rfl, (by repeat (first | assumption | exact Below.refl _ _ | apply bw_alloc | apply bw_drew | apply bw_drewN | apply bw_later | apply bw_step))⟩
end Go.Proofs.Ytcmooklcaeggbaa
